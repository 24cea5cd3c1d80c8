/- Chapters 1 and 5: operators applied: the program and the document. Conditions: none. -/
import Derived.Test.YtkebblmmgcgjkaaC1
namespace Go.Z.Val
set_option maxRecDepth 8000
set_option linter.unusedVariables false
set_option linter.unusedSimpArgs false
set_option linter.unusedSectionVars false
open Go Go.Z
theorem tmod_b (n : Int) : -65536 < n.tmod 65536 ∧ n.tmod 65536 < 65536 := by
  have h : (n.tmod 65536).natAbs < 65536 := by rw [Int.natAbs_tmod]; exact Nat.mod_lt _ (by decide)
  omega
theorem groupF_k {op k : Int} {n : Nat} (hg : groupF op = (k, n)) : (k = 0 ∧ n = 0) ∨ ((k = 1 ∨ k = 2 ∨ k = 3 ∨ k = 4) ∧ (n = 1 ∨ n = 2)) := by
  unfold groupF at hg
  split at hg
  · cases hg; simp
  · split at hg
    · cases hg; simp
    · split at hg
      · cases hg; simp
      · split at hg
        · cases hg; simp
        · split at hg
          · cases hg; simp
          · split at hg
            · cases hg; simp
            · cases hg; simp
theorem take_all {α : Type} (p : α → Bool) (l : List α) (k : Nat) (hk : k < l.length) (h : (l.take k).all p = true) (h2 : p l[k] = true) : (l.take (k + 1)).all p = true := by
  rw [List.take_add_one, List.getElem?_eq_getElem hk, Option.toList_some, List.all_append, h]; simp [h2]
theorem all_no {α : Type} {p : α → Bool} {l : List α} {k : Nat} (hk : k < l.length) (h : p l[k] = false) : l.all p = false := by
  rw [← Bool.not_eq_true, List.all_eq_true]
  intro hh
  rw [hh _ (List.getElem_mem hk)] at h; cases h
theorem applyF_arg {op k : Int} {n : Nat} (hg : groupF op = (k, n)) (h : k = 0) (args : List Int) : applyF op args = (0, 2) := by
  unfold applyF; rw [hg]; simp [h]
theorem applyF_arity {op k : Int} {n : Nat} (hg : groupF op = (k, n)) (h : k ≠ 0) {args : List Int} (hl : args.length ≠ n) : applyF op args = (0, 9) := by
  unfold applyF; rw [hg]; simp [h, hl]
theorem applyF_range {op k : Int} {n : Nat} (hg : groupF op = (k, n)) (h : k ≠ 0) {args : List Int} (hl : args.length = n) (ha : args.all (argB k) = false) : applyF op args = (0, 14) := by
  unfold applyF; rw [hg]; dsimp only; rw [if_neg h, if_neg (by simpa using hl), if_neg (by rw [ha]; simp)]
theorem applyF_ok {op k : Int} {n : Nat} (hg : groupF op = (k, n)) (h : k ≠ 0) {args : List Int} (hl : args.length = n) (ha : args.all (argB k) = true) : applyF op args = (opF op (args.getD 0 0) (args.getD (n - 1) 0), 0) := by
  unfold applyF; rw [hg]; dsimp only; rw [if_neg h, if_neg (by simpa using hl), if_pos ha]
theorem opF_ar {op k : Int} {n : Nat} (hg : groupF op = (k, n)) (h : k = 2) (a b : Int) : opF op a b = computeF op a b := by
  unfold opF; rw [hg]; simp [h]
theorem opF_no {op k : Int} {n : Nat} (hg : groupF op = (k, n)) (h : k ≠ 2) (a b : Int) : opF op a b = truth (holdsF op a b) := by
  unfold opF; rw [hg]; simp [h]
end Go.Z.Val
namespace Go.Proofs.Ytkebblmmgcgjkaa
set_option maxRecDepth 8000
set_option linter.unusedVariables false
set_option linter.unusedSimpArgs false
set_option linter.unusedSectionVars false
open Go Go.Z Go.Z.Val

theorem apply_ok {ρ : Nat → Obj → Prop} (op : Int) {aa : Option Addr} {ac : Nat} {args : List Int} (ha : RSl ρ 1 aa args.length (args.map encI)) (hlen : args.length ≤ 9223372036854775806) :
    Con Try.prog ρ 37 #[.int .i64 op, .slice aa args.length ac] [] (fun v H => v = .tuple #[.int .i64 (applyF op args).1, .int .i64 (applyF op args).2] ∧ H = []) := by
  obtain ⟨_, bl, ol, kl, Tl, fl, hl⟩ := ha
  refine con_intro Try.func37 Try.call37 rfl Try.ntmps37 rfl (L := [(0, _), (1, _)]) rfl fun w hh => ?_
  refine g_seq ?_
  refine g_region ?_
  refine g_pure (p_assign rfl) rfl ?_
  refine g_pure (p_assign rfl) rfl ?_
  refine g_nil ?_
  refine g_qt ?_
  refine g_seq ?_
  refine g_region ?_
  refine g_pure (p_move rfl) rfl ?_
  refine g_call (Hin := []) (Hr := ?hr1) (R := ?rr1) rfl rfl rfl ?hin1 ?hc1 ?hk1
  case hin1 => repeat' (first | exact Cover.nil | exact Take.here | apply Cover.cons | apply Take.there)
  case hc1 => intro ρ' hρ hR; exact group_ok op
  rintro _ _ ⟨k, nn, rfl, hg, hn0, rfl⟩
  refine g_pure (p_move rfl) rfl ?_
  refine g_pure (p_extract rfl rfl) rfl ?_
  refine g_pure (p_extract rfl rfl) rfl ?_
  refine g_pure (p_assign rfl) rfl ?_
  refine g_pure (p_assign rfl) rfl ?_
  refine g_nil ?_
  refine g_qt ?_
  refine g_seq ?_
  refine g_block ?_
  refine g_seq ?_
  refine g_region ?_
  refine g_pure (p_move rfl) rfl ?_
  refine g_pure (p_eql rfl rfl) rfl ?_
  refine g_pure (p_assign rfl) rfl ?_
  refine g_nil ?_
  refine g_qt ?_
  have hgk := groupF_k hg
  refine g_ifd rfl (fun hk => ?_) (fun hk => ?_)
  · refine g_seq ?_
    refine g_region ?_
    refine g_pure (p_assign rfl) rfl ?_
    refine g_pure (p_assign rfl) rfl ?_
    refine g_nil ?_
    refine g_qt ?_
    refine g_ret ?_
    refine g_qb_ret ?_
    refine g_qt_ret ?_
    exact g_post (rs := [.tmp 4, .tmp 5]) rfl (.tmp rfl (.tmp rfl .nil)) ⟨by rw [applyF_arg hg hk]; rfl, rfl⟩ .nil
  · refine g_seq ?_
    refine g_region ?_
    refine g_pure (p_move rfl) rfl ?_
    refine g_pure (p_len (by rfl) rfl) rfl ?_
    refine g_pure (p_move rfl) rfl ?_
    refine g_pure (p_neq rfl rfl) rfl ?_
    refine g_pure (p_assign rfl) rfl ?_
    refine g_nil ?_
    refine g_qt ?_
    refine g_ifnd rfl (fun hn => ?_) (fun hn => ?_)
    · refine g_seq ?_
      refine g_region ?_
      refine g_pure (p_assign rfl) rfl ?_
      refine g_pure (p_assign rfl) rfl ?_
      refine g_nil ?_
      refine g_qt ?_
      refine g_ret ?_
      refine g_qb_ret ?_
      refine g_qt_ret ?_
      exact g_post (rs := [.tmp 4, .tmp 5]) rfl (.tmp rfl (.tmp rfl .nil)) ⟨by rw [applyF_arity hg hk (by omega)]; rfl, rfl⟩ .nil
    · have hln : args.length = nn.toNat := by omega
      refine g_skip ?_
      refine g_qb ?_
      refine g_qt ?_
      refine g_seq ?_
      refine g_seq ?_
      refine g_region ?_
      refine g_pure (p_move rfl) rfl ?_
      refine g_pure (p_len (by rfl) rfl) rfl ?_
      refine g_pure (p_move rfl) rfl ?_
      refine g_nil ?_
      refine g_qt ?_
      refine g_block ?_
      refine g_loop (fun j : Nat => [(0, .int .i64 op), (1, .slice aa args.length ac), (6, .int .i64 k), (7, .int .i64 nn), (25, .slice aa args.length ac), (26, .int .i64 args.length), (27, .int .i64 j)])
        (fun _ => []) (fun j => j ≤ args.length ∧ (args.take j).all (argB k) = true) (fun j => args.length - j) 0 ⟨Nat.zero_le _, rfl⟩ (by (repeat (first | exact trivial | refine ⟨by rfl, ?_⟩)); done) (by repeat' (first | exact Cover.nil | exact Take.here | apply Cover.cons | apply Take.there)) ?_
      rintro j ⟨hj, hall⟩
      refine g_seq ?_
      refine g_region ?_
      refine g_pure (p_lss rfl rfl) rfl ?_
      refine g_nil ?_
      refine g_qt ?_
      refine g_seq ?_
      refine g_ifd rfl (fun q => ?_) (fun q => ?_)
      · have hjl : j < args.length := by omega
        obtain ⟨l1, l2, l3⟩ := hl (by omega)
        have x1 : kl[ol + (j : Int).toNat * 1]? = some (encI args[j]) := flat2 l3 (i := j) (mapI _ hjl) (by simp)
        have hno : argB k args[j] = false → applyF op args = (0, 14) := fun h => applyF_range hg hk hln (all_no hjl h)
        have hgo := take_all (argB k) args j hjl hall
        generalize hlk : args[j] = l at *
        refine g_skip ?_
        refine g_qt ?_
        refine g_seq ?_
        refine g_block ?_
        refine g_seq ?_
        refine g_region ?_
        refine g_pure (p_indexAddr rfl rfl (by omega) (fun _ => l1)) rfl ?_
        refine g_pure (p_load (by rfl) rfl (Has.ro l2) x1) rfl ?_
        refine g_pure (p_assign rfl) rfl ?_
        refine g_nil ?_
        refine g_qt ?_
        refine g_seq ?_
        refine g_region ?_
        refine g_pure (p_move rfl) rfl ?_
        refine g_pure (p_eql rfl rfl) rfl ?_
        refine g_pure (p_move rfl) rfl ?_
        refine g_splitd rfl rfl (fun h1 => ?_) (fun h1 => ?_)
        · refine g_yes rfl rfl ?_
          refine g_pure (p_move rfl) rfl ?_
          refine g_yes rfl rfl ?_
          refine g_pure (p_neq rfl rfl) rfl ?_
          first | refine g_pure (p_pickt rfl rfl) rfl ?_ | refine g_pure (p_pickf rfl rfl) rfl ?_
          refine g_pure (p_move rfl) rfl ?_
          refine g_splitnd rfl rfl (fun h2 => ?_) (fun h2 => ?_)
          · refine g_yes rfl rfl ?_
            refine g_pure (p_move rfl) rfl ?_
            refine g_yes rfl rfl ?_
            refine g_pure (p_neq rfl rfl) rfl ?_
            first | refine g_pure (p_pickt rfl rfl) rfl ?_ | refine g_pure (p_pickf rfl rfl) rfl ?_
            refine g_pure (p_move rfl) rfl ?_
            refine g_splitnd rfl rfl (fun h3 => ?_) (fun h3 => ?_)
            · refine g_no rfl rfl rfl rfl ?_
              refine g_no rfl rfl rfl rfl ?_
              refine g_no rfl rfl rfl rfl ?_
              refine g_nou rfl rfl rfl ?_
              refine g_nou rfl rfl rfl ?_
              refine g_no rfl rfl rfl rfl ?_
              refine g_no rfl rfl rfl rfl ?_
              refine g_nou rfl rfl rfl ?_
              refine g_nou rfl rfl rfl ?_
              refine g_nou rfl rfl rfl ?_
              refine g_no rfl rfl rfl rfl ?_
              first | refine g_pure (p_pickt rfl rfl) rfl ?_ | refine g_pure (p_pickf rfl rfl) rfl ?_
              refine g_nil ?_
              refine g_qt ?_
              refine g_ift rfl ?_
              refine g_seq ?_
              refine g_region ?_
              refine g_pure (p_assign rfl) rfl ?_
              refine g_pure (p_assign rfl) rfl ?_
              refine g_nil ?_
              refine g_qt ?_
              refine g_ret ?_
              refine g_qb_ret ?_
              refine g_qt_ret ?_
              refine g_qn_ret ?_
              refine g_qb_ret ?_
              refine g_qt_ret ?_
              exact g_post (rs := [.tmp 4, .tmp 5]) rfl (.tmp rfl (.tmp rfl .nil)) ⟨by rw [hno (by unfold argB; (repeat' split) <;> simp <;> omega)]; rfl, rfl⟩ .nil
            · refine g_yes rfl rfl ?_
              refine g_pure (p_move rfl) rfl ?_
              refine g_yes rfl rfl ?_
              refine g_pure (p_eql rfl rfl) rfl ?_
              refine g_yes rfl rfl ?_
              refine g_pure (p_move rfl) rfl ?_
              refine g_splitd rfl rfl (fun h7 => ?_) (fun h7 => ?_)
              · refine g_no rfl rfl rfl rfl ?_
                refine g_no rfl rfl rfl rfl ?_
                refine g_yes rfl rfl ?_
                first | refine g_pure (p_pickt rfl rfl) rfl ?_ | refine g_pure (p_pickf rfl rfl) rfl ?_
                refine g_yes rfl rfl ?_
                refine g_pure (p_move rfl) rfl ?_
                refine g_yes rfl rfl ?_
                refine g_pure (p_move rfl) rfl ?_
                refine g_yes rfl rfl ?_
                refine g_call (Hin := []) (Hr := ?hr2) (R := ?rr2) rfl rfl rfl ?hin2 ?hc2 ?hk2
                case hin2 => repeat' (first | exact Cover.nil | exact Take.here | apply Cover.cons | apply Take.there)
                case hc2 => intro ρ' hρ hR; exact in_ok _
                rintro _ _ ⟨rfl, rfl⟩
                refine g_yes rfl rfl ?_
                refine g_pure (p_not rfl) rfl ?_
                refine g_yes rfl rfl ?_
                first | refine g_pure (p_pickt rfl rfl) rfl ?_ | refine g_pure (p_pickf rfl rfl) rfl ?_
                first | refine g_pure (p_pickt rfl rfl) rfl ?_ | refine g_pure (p_pickf rfl rfl) rfl ?_
                refine g_nil ?_
                refine g_qt ?_
                refine g_ifndL rfl (fun h9 => ?_) (fun h9 => ?_)
                · refine g_seq ?_
                  refine g_region ?_
                  refine g_pure (p_assign rfl) rfl ?_
                  refine g_pure (p_assign rfl) rfl ?_
                  refine g_nil ?_
                  refine g_qt ?_
                  refine g_ret ?_
                  refine g_qb_ret ?_
                  refine g_qt_ret ?_
                  refine g_qn_ret ?_
                  refine g_qb_ret ?_
                  refine g_qt_ret ?_
                  exact g_post (rs := [.tmp 4, .tmp 5]) rfl (.tmp rfl (.tmp rfl .nil)) ⟨by rw [hno (by unfold argB; (repeat' split) <;> simp <;> omega)]; rfl, rfl⟩ .nil
                · refine g_skip ?_
                  refine g_qb ?_
                  refine g_qt ?_
                  refine g_region ?_
                  first | refine g_pure (p_addi rfl rfl (by omega)) rfl ?_ | refine g_pure (p_add rfl rfl) rfl ?_
                  refine g_pure (p_move rfl) rfl ?_
                  refine g_nil ?_
                  refine g_qn ?_
                  exact g_next (j + 1) (by (repeat (first | exact trivial | refine ⟨by rfl, ?_⟩)); done) (by repeat' (first | exact Cover.nil | exact Take.here | apply Cover.cons | apply Take.there)) ⟨by omega, hgo (by unfold argB; (repeat' split) <;> simp <;> omega)⟩ (by omega)
              · refine g_yes rfl rfl ?_
                refine g_pure (p_move rfl) rfl ?_
                refine g_yes rfl rfl ?_
                refine g_pure (p_eql rfl rfl) rfl ?_
                refine g_yes rfl rfl ?_
                first | refine g_pure (p_pickt rfl rfl) rfl ?_ | refine g_pure (p_pickf rfl rfl) rfl ?_
                refine g_yes rfl rfl ?_
                refine g_pure (p_move rfl) rfl ?_
                refine g_splitd rfl rfl (fun h10 => ?_) (fun h10 => ?_)
                · refine g_yes rfl rfl ?_
                  refine g_pure (p_move rfl) rfl ?_
                  refine g_yes rfl rfl ?_
                  refine g_call (Hin := []) (Hr := ?hr3) (R := ?rr3) rfl rfl rfl ?hin3 ?hc3 ?hk3
                  case hin3 => repeat' (first | exact Cover.nil | exact Take.here | apply Cover.cons | apply Take.there)
                  case hc3 => intro ρ' hρ hR; exact in_ok _
                  rintro _ _ ⟨rfl, rfl⟩
                  refine g_yes rfl rfl ?_
                  refine g_pure (p_not rfl) rfl ?_
                  refine g_yes rfl rfl ?_
                  first | refine g_pure (p_pickt rfl rfl) rfl ?_ | refine g_pure (p_pickf rfl rfl) rfl ?_
                  first | refine g_pure (p_pickt rfl rfl) rfl ?_ | refine g_pure (p_pickf rfl rfl) rfl ?_
                  refine g_nil ?_
                  refine g_qt ?_
                  refine g_ifndL rfl (fun h11 => ?_) (fun h11 => ?_)
                  · refine g_seq ?_
                    refine g_region ?_
                    refine g_pure (p_assign rfl) rfl ?_
                    refine g_pure (p_assign rfl) rfl ?_
                    refine g_nil ?_
                    refine g_qt ?_
                    refine g_ret ?_
                    refine g_qb_ret ?_
                    refine g_qt_ret ?_
                    refine g_qn_ret ?_
                    refine g_qb_ret ?_
                    refine g_qt_ret ?_
                    exact g_post (rs := [.tmp 4, .tmp 5]) rfl (.tmp rfl (.tmp rfl .nil)) ⟨by rw [hno (by unfold argB; (repeat' split) <;> simp <;> omega)]; rfl, rfl⟩ .nil
                  · refine g_skip ?_
                    refine g_qb ?_
                    refine g_qt ?_
                    refine g_region ?_
                    first | refine g_pure (p_addi rfl rfl (by omega)) rfl ?_ | refine g_pure (p_add rfl rfl) rfl ?_
                    refine g_pure (p_move rfl) rfl ?_
                    refine g_nil ?_
                    refine g_qn ?_
                    exact g_next (j + 1) (by (repeat (first | exact trivial | refine ⟨by rfl, ?_⟩)); done) (by repeat' (first | exact Cover.nil | exact Take.here | apply Cover.cons | apply Take.there)) ⟨by omega, hgo (by unfold argB; (repeat' split) <;> simp <;> omega)⟩ (by omega)
                · refine g_no rfl rfl rfl rfl ?_
                  refine g_no rfl rfl rfl rfl ?_
                  refine g_no rfl rfl rfl rfl ?_
                  refine g_yes rfl rfl ?_
                  first | refine g_pure (p_pickt rfl rfl) rfl ?_ | refine g_pure (p_pickf rfl rfl) rfl ?_
                  first | refine g_pure (p_pickt rfl rfl) rfl ?_ | refine g_pure (p_pickf rfl rfl) rfl ?_
                  refine g_nil ?_
                  refine g_qt ?_
                  refine g_iff rfl ?_
                  refine g_skip ?_
                  refine g_qb ?_
                  refine g_qt ?_
                  refine g_region ?_
                  first | refine g_pure (p_addi rfl rfl (by omega)) rfl ?_ | refine g_pure (p_add rfl rfl) rfl ?_
                  refine g_pure (p_move rfl) rfl ?_
                  refine g_nil ?_
                  refine g_qn ?_
                  exact g_next (j + 1) (by (repeat (first | exact trivial | refine ⟨by rfl, ?_⟩)); done) (by repeat' (first | exact Cover.nil | exact Take.here | apply Cover.cons | apply Take.there)) ⟨by omega, hgo (by unfold argB; (repeat' split) <;> simp <;> omega)⟩ (by omega)
          · refine g_no rfl rfl rfl rfl ?_
            refine g_no rfl rfl rfl rfl ?_
            first | refine g_pure (p_pickt rfl rfl) rfl ?_ | refine g_pure (p_pickf rfl rfl) rfl ?_
            refine g_pure (p_move rfl) rfl ?_
            refine g_yes rfl rfl ?_
            refine g_pure (p_move rfl) rfl ?_
            refine g_yes rfl rfl ?_
            refine g_pure (p_eql rfl rfl) rfl ?_
            refine g_yes rfl rfl ?_
            refine g_pure (p_move rfl) rfl ?_
            refine g_splitd rfl rfl (fun h14 => ?_) (fun h14 => ?_)
            · refine g_no rfl rfl rfl rfl ?_
              refine g_no rfl rfl rfl rfl ?_
              refine g_yes rfl rfl ?_
              first | refine g_pure (p_pickt rfl rfl) rfl ?_ | refine g_pure (p_pickf rfl rfl) rfl ?_
              refine g_yes rfl rfl ?_
              refine g_pure (p_move rfl) rfl ?_
              refine g_yes rfl rfl ?_
              refine g_pure (p_move rfl) rfl ?_
              refine g_yes rfl rfl ?_
              refine g_call (Hin := []) (Hr := ?hr4) (R := ?rr4) rfl rfl rfl ?hin4 ?hc4 ?hk4
              case hin4 => repeat' (first | exact Cover.nil | exact Take.here | apply Cover.cons | apply Take.there)
              case hc4 => intro ρ' hρ hR; exact in_ok _
              rintro _ _ ⟨rfl, rfl⟩
              refine g_yes rfl rfl ?_
              refine g_pure (p_not rfl) rfl ?_
              refine g_yes rfl rfl ?_
              first | refine g_pure (p_pickt rfl rfl) rfl ?_ | refine g_pure (p_pickf rfl rfl) rfl ?_
              first | refine g_pure (p_pickt rfl rfl) rfl ?_ | refine g_pure (p_pickf rfl rfl) rfl ?_
              refine g_nil ?_
              refine g_qt ?_
              refine g_ifndL rfl (fun h16 => ?_) (fun h16 => ?_)
              · refine g_seq ?_
                refine g_region ?_
                refine g_pure (p_assign rfl) rfl ?_
                refine g_pure (p_assign rfl) rfl ?_
                refine g_nil ?_
                refine g_qt ?_
                refine g_ret ?_
                refine g_qb_ret ?_
                refine g_qt_ret ?_
                refine g_qn_ret ?_
                refine g_qb_ret ?_
                refine g_qt_ret ?_
                exact g_post (rs := [.tmp 4, .tmp 5]) rfl (.tmp rfl (.tmp rfl .nil)) ⟨by rw [hno (by unfold argB; (repeat' split) <;> simp <;> omega)]; rfl, rfl⟩ .nil
              · refine g_skip ?_
                refine g_qb ?_
                refine g_qt ?_
                refine g_region ?_
                first | refine g_pure (p_addi rfl rfl (by omega)) rfl ?_ | refine g_pure (p_add rfl rfl) rfl ?_
                refine g_pure (p_move rfl) rfl ?_
                refine g_nil ?_
                refine g_qn ?_
                exact g_next (j + 1) (by (repeat (first | exact trivial | refine ⟨by rfl, ?_⟩)); done) (by repeat' (first | exact Cover.nil | exact Take.here | apply Cover.cons | apply Take.there)) ⟨by omega, hgo (by unfold argB; (repeat' split) <;> simp <;> omega)⟩ (by omega)
            · refine g_yes rfl rfl ?_
              refine g_pure (p_move rfl) rfl ?_
              refine g_yes rfl rfl ?_
              refine g_pure (p_eql rfl rfl) rfl ?_
              refine g_yes rfl rfl ?_
              first | refine g_pure (p_pickt rfl rfl) rfl ?_ | refine g_pure (p_pickf rfl rfl) rfl ?_
              refine g_yes rfl rfl ?_
              refine g_pure (p_move rfl) rfl ?_
              refine g_splitd rfl rfl (fun h17 => ?_) (fun h17 => ?_)
              · refine g_yes rfl rfl ?_
                refine g_pure (p_move rfl) rfl ?_
                refine g_yes rfl rfl ?_
                refine g_call (Hin := []) (Hr := ?hr5) (R := ?rr5) rfl rfl rfl ?hin5 ?hc5 ?hk5
                case hin5 => repeat' (first | exact Cover.nil | exact Take.here | apply Cover.cons | apply Take.there)
                case hc5 => intro ρ' hρ hR; exact in_ok _
                rintro _ _ ⟨rfl, rfl⟩
                refine g_yes rfl rfl ?_
                refine g_pure (p_not rfl) rfl ?_
                refine g_yes rfl rfl ?_
                first | refine g_pure (p_pickt rfl rfl) rfl ?_ | refine g_pure (p_pickf rfl rfl) rfl ?_
                first | refine g_pure (p_pickt rfl rfl) rfl ?_ | refine g_pure (p_pickf rfl rfl) rfl ?_
                refine g_nil ?_
                refine g_qt ?_
                refine g_ifndL rfl (fun h18 => ?_) (fun h18 => ?_)
                · refine g_seq ?_
                  refine g_region ?_
                  refine g_pure (p_assign rfl) rfl ?_
                  refine g_pure (p_assign rfl) rfl ?_
                  refine g_nil ?_
                  refine g_qt ?_
                  refine g_ret ?_
                  refine g_qb_ret ?_
                  refine g_qt_ret ?_
                  refine g_qn_ret ?_
                  refine g_qb_ret ?_
                  refine g_qt_ret ?_
                  exact g_post (rs := [.tmp 4, .tmp 5]) rfl (.tmp rfl (.tmp rfl .nil)) ⟨by rw [hno (by unfold argB; (repeat' split) <;> simp <;> omega)]; rfl, rfl⟩ .nil
                · refine g_skip ?_
                  refine g_qb ?_
                  refine g_qt ?_
                  refine g_region ?_
                  first | refine g_pure (p_addi rfl rfl (by omega)) rfl ?_ | refine g_pure (p_add rfl rfl) rfl ?_
                  refine g_pure (p_move rfl) rfl ?_
                  refine g_nil ?_
                  refine g_qn ?_
                  exact g_next (j + 1) (by (repeat (first | exact trivial | refine ⟨by rfl, ?_⟩)); done) (by repeat' (first | exact Cover.nil | exact Take.here | apply Cover.cons | apply Take.there)) ⟨by omega, hgo (by unfold argB; (repeat' split) <;> simp <;> omega)⟩ (by omega)
              · refine g_no rfl rfl rfl rfl ?_
                refine g_no rfl rfl rfl rfl ?_
                refine g_no rfl rfl rfl rfl ?_
                refine g_yes rfl rfl ?_
                first | refine g_pure (p_pickt rfl rfl) rfl ?_ | refine g_pure (p_pickf rfl rfl) rfl ?_
                first | refine g_pure (p_pickt rfl rfl) rfl ?_ | refine g_pure (p_pickf rfl rfl) rfl ?_
                refine g_nil ?_
                refine g_qt ?_
                refine g_iff rfl ?_
                refine g_skip ?_
                refine g_qb ?_
                refine g_qt ?_
                refine g_region ?_
                first | refine g_pure (p_addi rfl rfl (by omega)) rfl ?_ | refine g_pure (p_add rfl rfl) rfl ?_
                refine g_pure (p_move rfl) rfl ?_
                refine g_nil ?_
                refine g_qn ?_
                exact g_next (j + 1) (by (repeat (first | exact trivial | refine ⟨by rfl, ?_⟩)); done) (by repeat' (first | exact Cover.nil | exact Take.here | apply Cover.cons | apply Take.there)) ⟨by omega, hgo (by unfold argB; (repeat' split) <;> simp <;> omega)⟩ (by omega)
        · refine g_no rfl rfl rfl rfl ?_
          refine g_no rfl rfl rfl rfl ?_
          first | refine g_pure (p_pickt rfl rfl) rfl ?_ | refine g_pure (p_pickf rfl rfl) rfl ?_
          refine g_pure (p_move rfl) rfl ?_
          refine g_no rfl rfl rfl rfl ?_
          refine g_no rfl rfl rfl rfl ?_
          first | refine g_pure (p_pickt rfl rfl) rfl ?_ | refine g_pure (p_pickf rfl rfl) rfl ?_
          refine g_pure (p_move rfl) rfl ?_
          refine g_yes rfl rfl ?_
          refine g_pure (p_move rfl) rfl ?_
          refine g_yes rfl rfl ?_
          refine g_pure (p_eql rfl rfl) rfl ?_
          refine g_yes rfl rfl ?_
          refine g_pure (p_move rfl) rfl ?_
          refine g_splitd rfl rfl (fun h22 => ?_) (fun h22 => ?_)
          · refine g_no rfl rfl rfl rfl ?_
            refine g_no rfl rfl rfl rfl ?_
            refine g_yes rfl rfl ?_
            first | refine g_pure (p_pickt rfl rfl) rfl ?_ | refine g_pure (p_pickf rfl rfl) rfl ?_
            refine g_yes rfl rfl ?_
            refine g_pure (p_move rfl) rfl ?_
            refine g_yes rfl rfl ?_
            refine g_pure (p_move rfl) rfl ?_
            refine g_yes rfl rfl ?_
            refine g_call (Hin := []) (Hr := ?hr6) (R := ?rr6) rfl rfl rfl ?hin6 ?hc6 ?hk6
            case hin6 => repeat' (first | exact Cover.nil | exact Take.here | apply Cover.cons | apply Take.there)
            case hc6 => intro ρ' hρ hR; exact in_ok _
            rintro _ _ ⟨rfl, rfl⟩
            refine g_yes rfl rfl ?_
            refine g_pure (p_not rfl) rfl ?_
            refine g_yes rfl rfl ?_
            first | refine g_pure (p_pickt rfl rfl) rfl ?_ | refine g_pure (p_pickf rfl rfl) rfl ?_
            first | refine g_pure (p_pickt rfl rfl) rfl ?_ | refine g_pure (p_pickf rfl rfl) rfl ?_
            refine g_nil ?_
            refine g_qt ?_
            refine g_ifndL rfl (fun h24 => ?_) (fun h24 => ?_)
            · refine g_seq ?_
              refine g_region ?_
              refine g_pure (p_assign rfl) rfl ?_
              refine g_pure (p_assign rfl) rfl ?_
              refine g_nil ?_
              refine g_qt ?_
              refine g_ret ?_
              refine g_qb_ret ?_
              refine g_qt_ret ?_
              refine g_qn_ret ?_
              refine g_qb_ret ?_
              refine g_qt_ret ?_
              exact g_post (rs := [.tmp 4, .tmp 5]) rfl (.tmp rfl (.tmp rfl .nil)) ⟨by rw [hno (by unfold argB; (repeat' split) <;> simp <;> omega)]; rfl, rfl⟩ .nil
            · refine g_skip ?_
              refine g_qb ?_
              refine g_qt ?_
              refine g_region ?_
              first | refine g_pure (p_addi rfl rfl (by omega)) rfl ?_ | refine g_pure (p_add rfl rfl) rfl ?_
              refine g_pure (p_move rfl) rfl ?_
              refine g_nil ?_
              refine g_qn ?_
              exact g_next (j + 1) (by (repeat (first | exact trivial | refine ⟨by rfl, ?_⟩)); done) (by repeat' (first | exact Cover.nil | exact Take.here | apply Cover.cons | apply Take.there)) ⟨by omega, hgo (by unfold argB; (repeat' split) <;> simp <;> omega)⟩ (by omega)
          · refine g_yes rfl rfl ?_
            refine g_pure (p_move rfl) rfl ?_
            refine g_yes rfl rfl ?_
            refine g_pure (p_eql rfl rfl) rfl ?_
            refine g_yes rfl rfl ?_
            first | refine g_pure (p_pickt rfl rfl) rfl ?_ | refine g_pure (p_pickf rfl rfl) rfl ?_
            refine g_yes rfl rfl ?_
            refine g_pure (p_move rfl) rfl ?_
            refine g_splitd rfl rfl (fun h25 => ?_) (fun h25 => ?_)
            · refine g_yes rfl rfl ?_
              refine g_pure (p_move rfl) rfl ?_
              refine g_yes rfl rfl ?_
              refine g_call (Hin := []) (Hr := ?hr7) (R := ?rr7) rfl rfl rfl ?hin7 ?hc7 ?hk7
              case hin7 => repeat' (first | exact Cover.nil | exact Take.here | apply Cover.cons | apply Take.there)
              case hc7 => intro ρ' hρ hR; exact in_ok _
              rintro _ _ ⟨rfl, rfl⟩
              refine g_yes rfl rfl ?_
              refine g_pure (p_not rfl) rfl ?_
              refine g_yes rfl rfl ?_
              first | refine g_pure (p_pickt rfl rfl) rfl ?_ | refine g_pure (p_pickf rfl rfl) rfl ?_
              first | refine g_pure (p_pickt rfl rfl) rfl ?_ | refine g_pure (p_pickf rfl rfl) rfl ?_
              refine g_nil ?_
              refine g_qt ?_
              refine g_ifndL rfl (fun h26 => ?_) (fun h26 => ?_)
              · refine g_seq ?_
                refine g_region ?_
                refine g_pure (p_assign rfl) rfl ?_
                refine g_pure (p_assign rfl) rfl ?_
                refine g_nil ?_
                refine g_qt ?_
                refine g_ret ?_
                refine g_qb_ret ?_
                refine g_qt_ret ?_
                refine g_qn_ret ?_
                refine g_qb_ret ?_
                refine g_qt_ret ?_
                exact g_post (rs := [.tmp 4, .tmp 5]) rfl (.tmp rfl (.tmp rfl .nil)) ⟨by rw [hno (by unfold argB; (repeat' split) <;> simp <;> omega)]; rfl, rfl⟩ .nil
              · refine g_skip ?_
                refine g_qb ?_
                refine g_qt ?_
                refine g_region ?_
                first | refine g_pure (p_addi rfl rfl (by omega)) rfl ?_ | refine g_pure (p_add rfl rfl) rfl ?_
                refine g_pure (p_move rfl) rfl ?_
                refine g_nil ?_
                refine g_qn ?_
                exact g_next (j + 1) (by (repeat (first | exact trivial | refine ⟨by rfl, ?_⟩)); done) (by repeat' (first | exact Cover.nil | exact Take.here | apply Cover.cons | apply Take.there)) ⟨by omega, hgo (by unfold argB; (repeat' split) <;> simp <;> omega)⟩ (by omega)
            · refine g_no rfl rfl rfl rfl ?_
              refine g_no rfl rfl rfl rfl ?_
              refine g_no rfl rfl rfl rfl ?_
              refine g_yes rfl rfl ?_
              first | refine g_pure (p_pickt rfl rfl) rfl ?_ | refine g_pure (p_pickf rfl rfl) rfl ?_
              first | refine g_pure (p_pickt rfl rfl) rfl ?_ | refine g_pure (p_pickf rfl rfl) rfl ?_
              refine g_nil ?_
              refine g_qt ?_
              refine g_iff rfl ?_
              refine g_skip ?_
              refine g_qb ?_
              refine g_qt ?_
              refine g_region ?_
              first | refine g_pure (p_addi rfl rfl (by omega)) rfl ?_ | refine g_pure (p_add rfl rfl) rfl ?_
              refine g_pure (p_move rfl) rfl ?_
              refine g_nil ?_
              refine g_qn ?_
              exact g_next (j + 1) (by (repeat (first | exact trivial | refine ⟨by rfl, ?_⟩)); done) (by repeat' (first | exact Cover.nil | exact Take.here | apply Cover.cons | apply Take.there)) ⟨by omega, hgo (by unfold argB; (repeat' split) <;> simp <;> omega)⟩ (by omega)
      · have hje : j = args.length := by omega
        rw [hje, List.take_length] at hall
        have hap := applyF_ok hg hk hln hall
        obtain ⟨l1, l2, l3⟩ := hl (by omega)
        have x0 : kl[ol + (0 : Int).toNat * 1]? = some (encI (args.getD 0 0)) := flat2 l3 (i := 0) (by rw [mapI _ (show 0 < args.length by omega), List.getD_eq_getElem?_getD, List.getElem?_eq_getElem (show 0 < args.length by omega)]; rfl) rfl
        have x1 : kl[ol + (nn - 1).toNat * 1]? = some (encI (args.getD (nn.toNat - 1) 0)) := flat2 l3 (i := nn.toNat - 1) (by rw [mapI _ (show nn.toNat - 1 < args.length by omega), List.getD_eq_getElem?_getD, List.getElem?_eq_getElem (show nn.toNat - 1 < args.length by omega)]; rfl) (by omega)
        generalize args.getD 0 0 = u at *
        generalize args.getD (nn.toNat - 1) 0 = u' at *
        refine g_exit ?_
        refine g_qt_exit ?_
        refine g_qn_exit ?_
        refine g_qb_exit ?_
        refine g_qt ?_
        refine g_seq ?_
        refine m_begin0 (.fl 0 0 (.fl 1 0 (.fl 2 1 (.fl 3 0 (.fl 4 0 (.fl 5 0 (.fl 6 0 (.fl 7 1 (.fl 8 0 (.fl 9 0 .done)))))))))) (by kernel_rfl) (by kernel_rfl) ?_
        refine m_float0 rfl (fun _ _ => p_move rfl) rfl ?_
        refine m_float0 rfl (fun _ _ => p_indexAddr rfl rfl (by omega) (fun _ => l1)) rfl ?_
        refine m_float rfl (p_load (by rfl) rfl (Has.ro l2) x0) rfl ?_
        refine m_float0 rfl (fun _ _ => p_move rfl) rfl ?_
        refine m_float0 rfl (fun _ _ => p_move rfl) rfl ?_
        first | refine m_float0 rfl (fun _ _ => p_subi rfl rfl (by omega)) rfl ?_ | refine m_float0 rfl (fun _ _ => p_sub rfl rfl) rfl ?_
        refine m_float0 rfl (fun _ _ => p_indexAddr rfl rfl (by omega) (fun _ => l1)) rfl ?_
        refine m_float rfl (p_load (by rfl) rfl (Has.ro l2) x1) rfl ?_
        refine m_float0 rfl (fun _ _ => p_assign rfl) rfl ?_
        refine m_float0 rfl (fun _ _ => p_assign rfl) rfl ?_
        refine m_nil ?_
        refine g_qt ?_
        refine g_seq ?_
        refine g_seq ?_
        refine g_region ?_
        refine g_pure (p_move rfl) rfl ?_
        refine g_pure (p_eql rfl rfl) rfl ?_
        refine g_nil ?_
        refine g_qt ?_
        refine g_ifd rfl (fun z => ?_) (fun z => ?_)
        · refine g_seq ?_
          refine g_region ?_
          refine g_pure (p_move rfl) rfl ?_
          refine g_pure (p_move rfl) rfl ?_
          refine g_pure (p_move rfl) rfl ?_
          refine g_call (Hin := []) (Hr := ?hr8) (R := ?rr8) rfl rfl rfl ?hin8 ?hc8 ?hk8
          case hin8 => repeat' (first | exact Cover.nil | exact Take.here | apply Cover.cons | apply Take.there)
          case hc8 => intro ρ' hρ hR; exact compute_ok op u u'
          rintro _ _ ⟨r, rfl, hr, rfl⟩
          refine g_pure (p_assign rfl) rfl ?_
          refine g_pure (p_assign rfl) rfl ?_
          refine g_nil ?_
          refine g_qt ?_
          refine g_ret ?_
          refine g_qt_ret ?_
          exact g_post (rs := [.tmp 4, .tmp 5]) rfl (.tmp rfl (.tmp rfl .nil)) ⟨by rw [hap, opF_ar hg z, hr]; rfl, rfl⟩ .nil
        · refine g_skip ?_
          refine g_qt ?_
          refine g_seq ?_
          refine g_region ?_
          refine g_pure (p_move rfl) rfl ?_
          refine g_pure (p_move rfl) rfl ?_
          refine g_pure (p_move rfl) rfl ?_
          refine g_call (Hin := []) (Hr := ?hr9) (R := ?rr9) rfl rfl rfl ?hin9 ?hc9 ?hk9
          case hin9 => repeat' (first | exact Cover.nil | exact Take.here | apply Cover.cons | apply Take.there)
          case hc9 => intro ρ' hρ hR; exact holds_ok op u u'
          rintro _ _ ⟨r, rfl, hr, rfl⟩
          refine g_call (Hin := []) (Hr := ?hr10) (R := ?rr10) rfl rfl rfl ?hin10 ?hc10 ?hk10
          case hin10 => repeat' (first | exact Cover.nil | exact Take.here | apply Cover.cons | apply Take.there)
          case hc10 => intro ρ' hρ hR; exact truth_ok r
          rintro _ _ ⟨rfl, rfl⟩
          refine g_pure (p_assign rfl) rfl ?_
          refine g_pure (p_assign rfl) rfl ?_
          refine g_nil ?_
          refine g_qt ?_
          refine g_ret ?_
          exact g_post (rs := [.tmp 4, .tmp 5]) rfl (.tmp rfl (.tmp rfl .nil)) ⟨by rw [hap, opF_no hg z, hr]; rfl, rfl⟩ .nil

/-! ### the document -/
theorem dwrap_ok {ρ : Nat → Obj → Prop} (n : Int) : Con Try.prog ρ 122 #[.int .i64 n] [] (fun v H => v = .int .i64 (wr n) ∧ H = []) := by
  have hw := tmod_b n
  refine con_intro Try.func122 Try.call122 rfl Try.ntmps122 rfl (L := [(0, _)]) rfl fun w hh => ?_
  refine g_seq ?_
  refine g_region ?_
  refine g_pure (p_assign rfl) rfl ?_
  refine g_nil ?_
  refine g_qt ?_
  refine g_seq ?_
  refine g_region ?_
  refine g_pure (p_move rfl) rfl ?_
  refine g_pure (p_rem rfl rfl (by decide)) rfl ?_
  refine g_pure (p_assign rfl) rfl ?_
  refine g_nil ?_
  refine g_qt ?_
  refine g_seq ?_
  refine g_seq ?_
  refine g_region ?_
  refine g_pure (p_move rfl) rfl ?_
  refine g_pure (p_gtr rfl rfl) rfl ?_
  refine g_nil ?_
  refine g_qt ?_
  refine g_ifdL rfl (fun h1 => ?_) (fun h1 => ?_)
  · refine g_seq ?_
    refine g_region ?_
    refine g_pure (p_move rfl) rfl ?_
    first | refine g_pure (p_subi rfl rfl (by omega)) rfl ?_ | refine g_pure (p_sub rfl rfl) rfl ?_
    refine g_pure (p_assign rfl) rfl ?_
    refine g_nil ?_
    refine g_qt ?_
    refine g_ret ?_
    refine g_qt_ret ?_
    exact g_post (rs := [.tmp 2]) rfl (.tmp rfl .nil) ⟨by rw [wr_doc]; first | (rw [if_pos (by assumption)]; rfl) | (rw [if_neg (by assumption), if_pos (by assumption)]; rfl) | (rw [if_neg (by assumption), if_neg (by assumption)]; rfl), rfl⟩ .nil
  · refine g_skip ?_
    refine g_qt ?_
    refine g_seq ?_
    refine g_seq ?_
    refine g_region ?_
    refine g_pure (p_move rfl) rfl ?_
    refine g_pure (p_lss rfl rfl) rfl ?_
    refine g_nil ?_
    refine g_qt ?_
    refine g_ifdL rfl (fun h2 => ?_) (fun h2 => ?_)
    · refine g_seq ?_
      refine g_region ?_
      refine g_pure (p_move rfl) rfl ?_
      first | refine g_pure (p_addi rfl rfl (by omega)) rfl ?_ | refine g_pure (p_add rfl rfl) rfl ?_
      refine g_pure (p_assign rfl) rfl ?_
      refine g_nil ?_
      refine g_qt ?_
      refine g_ret ?_
      refine g_qt_ret ?_
      exact g_post (rs := [.tmp 2]) rfl (.tmp rfl .nil) ⟨by rw [wr_doc]; first | (rw [if_pos (by assumption)]; rfl) | (rw [if_neg (by assumption), if_pos (by assumption)]; rfl) | (rw [if_neg (by assumption), if_neg (by assumption)]; rfl), rfl⟩ .nil
    · refine g_skip ?_
      refine g_qt ?_
      refine g_seq ?_
      refine g_region ?_
      refine g_pure (p_move rfl) rfl ?_
      refine g_pure (p_assign rfl) rfl ?_
      refine g_nil ?_
      refine g_qt ?_
      refine g_ret ?_
      exact g_post (rs := [.tmp 2]) rfl (.tmp rfl .nil) ⟨by rw [wr_doc]; first | (rw [if_pos (by assumption)]; rfl) | (rw [if_neg (by assumption), if_pos (by assumption)]; rfl) | (rw [if_neg (by assumption), if_neg (by assumption)]; rfl), rfl⟩ .nil
theorem dneg_ok {ρ : Nat → Obj → Prop} (a : Int) : Con Try.prog ρ 104 #[.int .i64 a] [] (fun v H => v = .int .i64 (wr (-(wr a))) ∧ H = []) := by
  have hw := wr_in a
  refine con_intro Try.func104 Try.call104 rfl Try.ntmps104 rfl (L := [(0, _)]) rfl fun w hh => ?_
  refine g_seq ?_
  refine g_region ?_
  refine g_pure (p_assign rfl) rfl ?_
  refine g_nil ?_
  refine g_qt ?_
  refine g_seq ?_
  refine g_region ?_
  refine g_pure (p_move rfl) rfl ?_
  refine g_call (Hin := []) (Hr := ?hr11) (R := ?rr11) rfl rfl rfl ?hin11 ?hc11 ?hk11
  case hin11 => repeat' (first | exact Cover.nil | exact Take.here | apply Cover.cons | apply Take.there)
  case hc11 => intro ρ' hρ hR; exact dwrap_ok _
  rintro _ _ ⟨rfl, rfl⟩
  first | refine g_pure (p_negi rfl (by omega)) rfl ?_ | refine g_pure (p_neg rfl) rfl ?_
  refine g_call (Hin := []) (Hr := ?hr12) (R := ?rr12) rfl rfl rfl ?hin12 ?hc12 ?hk12
  case hin12 => repeat' (first | exact Cover.nil | exact Take.here | apply Cover.cons | apply Take.there)
  case hc12 => intro ρ' hρ hR; exact dwrap_ok _
  rintro _ _ ⟨rfl, rfl⟩
  refine g_pure (p_assign rfl) rfl ?_
  refine g_nil ?_
  refine g_qt ?_
  refine g_ret ?_
  exact g_post (rs := [.tmp 2]) rfl (.tmp rfl .nil) ⟨rfl, rfl⟩ .nil
theorem dadd_ok {ρ : Nat → Obj → Prop} (a b : Int) : Con Try.prog ρ 124 #[.int .i64 a, .int .i64 b] [] (fun v H => v = .int .i64 (wr (wr a + wr b)) ∧ H = []) := by
  have hw := wr_in a
  have hw2 := wr_in b
  refine con_intro Try.func124 Try.call124 rfl Try.ntmps124 rfl (L := [(0, _), (1, _)]) rfl fun w hh => ?_
  refine g_seq ?_
  refine g_region ?_
  refine g_pure (p_assign rfl) rfl ?_
  refine g_nil ?_
  refine g_qt ?_
  refine g_seq ?_
  refine g_region ?_
  refine g_pure (p_move rfl) rfl ?_
  refine g_call (Hin := []) (Hr := ?hr13) (R := ?rr13) rfl rfl rfl ?hin13 ?hc13 ?hk13
  case hin13 => repeat' (first | exact Cover.nil | exact Take.here | apply Cover.cons | apply Take.there)
  case hc13 => intro ρ' hρ hR; exact dwrap_ok _
  rintro _ _ ⟨rfl, rfl⟩
  refine g_pure (p_move rfl) rfl ?_
  refine g_call (Hin := []) (Hr := ?hr14) (R := ?rr14) rfl rfl rfl ?hin14 ?hc14 ?hk14
  case hin14 => repeat' (first | exact Cover.nil | exact Take.here | apply Cover.cons | apply Take.there)
  case hc14 => intro ρ' hρ hR; exact dwrap_ok _
  rintro _ _ ⟨rfl, rfl⟩
  first | refine g_pure (p_addi rfl rfl (by omega)) rfl ?_ | refine g_pure (p_add rfl rfl) rfl ?_
  refine g_call (Hin := []) (Hr := ?hr15) (R := ?rr15) rfl rfl rfl ?hin15 ?hc15 ?hk15
  case hin15 => repeat' (first | exact Cover.nil | exact Take.here | apply Cover.cons | apply Take.there)
  case hc15 => intro ρ' hρ hR; exact dwrap_ok _
  rintro _ _ ⟨rfl, rfl⟩
  refine g_pure (p_assign rfl) rfl ?_
  refine g_nil ?_
  refine g_qt ?_
  refine g_ret ?_
  exact g_post (rs := [.tmp 4]) rfl (.tmp rfl .nil) ⟨rfl, rfl⟩ .nil
theorem dsub_ok {ρ : Nat → Obj → Prop} (a b : Int) : Con Try.prog ρ 125 #[.int .i64 a, .int .i64 b] [] (fun v H => v = .int .i64 (wr (wr a - wr b)) ∧ H = []) := by
  have hw := wr_in a
  have hw2 := wr_in b
  refine con_intro Try.func125 Try.call125 rfl Try.ntmps125 rfl (L := [(0, _), (1, _)]) rfl fun w hh => ?_
  refine g_seq ?_
  refine g_region ?_
  refine g_pure (p_assign rfl) rfl ?_
  refine g_nil ?_
  refine g_qt ?_
  refine g_seq ?_
  refine g_region ?_
  refine g_pure (p_move rfl) rfl ?_
  refine g_call (Hin := []) (Hr := ?hr16) (R := ?rr16) rfl rfl rfl ?hin16 ?hc16 ?hk16
  case hin16 => repeat' (first | exact Cover.nil | exact Take.here | apply Cover.cons | apply Take.there)
  case hc16 => intro ρ' hρ hR; exact dwrap_ok _
  rintro _ _ ⟨rfl, rfl⟩
  refine g_pure (p_move rfl) rfl ?_
  refine g_call (Hin := []) (Hr := ?hr17) (R := ?rr17) rfl rfl rfl ?hin17 ?hc17 ?hk17
  case hin17 => repeat' (first | exact Cover.nil | exact Take.here | apply Cover.cons | apply Take.there)
  case hc17 => intro ρ' hρ hR; exact dwrap_ok _
  rintro _ _ ⟨rfl, rfl⟩
  first | refine g_pure (p_subi rfl rfl (by omega)) rfl ?_ | refine g_pure (p_sub rfl rfl) rfl ?_
  refine g_call (Hin := []) (Hr := ?hr18) (R := ?rr18) rfl rfl rfl ?hin18 ?hc18 ?hk18
  case hin18 => repeat' (first | exact Cover.nil | exact Take.here | apply Cover.cons | apply Take.there)
  case hc18 => intro ρ' hρ hR; exact dwrap_ok _
  rintro _ _ ⟨rfl, rfl⟩
  refine g_pure (p_assign rfl) rfl ?_
  refine g_nil ?_
  refine g_qt ?_
  refine g_ret ?_
  exact g_post (rs := [.tmp 4]) rfl (.tmp rfl .nil) ⟨rfl, rfl⟩ .nil
theorem dmul_ok {ρ : Nat → Obj → Prop} (a b : Int) : Con Try.prog ρ 126 #[.int .i64 a, .int .i64 b] [] (fun v H => v = .int .i64 (wr (wr a * wr b)) ∧ H = []) := by
  have hm := mul_in (wr_in a) (wr_in b)
  refine con_intro Try.func126 Try.call126 rfl Try.ntmps126 rfl (L := [(0, _), (1, _)]) rfl fun w hh => ?_
  refine g_seq ?_
  refine g_region ?_
  refine g_pure (p_assign rfl) rfl ?_
  refine g_nil ?_
  refine g_qt ?_
  refine g_seq ?_
  refine g_region ?_
  refine g_pure (p_move rfl) rfl ?_
  refine g_call (Hin := []) (Hr := ?hr19) (R := ?rr19) rfl rfl rfl ?hin19 ?hc19 ?hk19
  case hin19 => repeat' (first | exact Cover.nil | exact Take.here | apply Cover.cons | apply Take.there)
  case hc19 => intro ρ' hρ hR; exact dwrap_ok _
  rintro _ _ ⟨rfl, rfl⟩
  refine g_pure (p_move rfl) rfl ?_
  refine g_call (Hin := []) (Hr := ?hr20) (R := ?rr20) rfl rfl rfl ?hin20 ?hc20 ?hk20
  case hin20 => repeat' (first | exact Cover.nil | exact Take.here | apply Cover.cons | apply Take.there)
  case hc20 => intro ρ' hρ hR; exact dwrap_ok _
  rintro _ _ ⟨rfl, rfl⟩
  first | refine g_pure (p_muli rfl rfl (by omega)) rfl ?_ | refine g_pure (p_mul rfl rfl) rfl ?_
  refine g_call (Hin := []) (Hr := ?hr21) (R := ?rr21) rfl rfl rfl ?hin21 ?hc21 ?hk21
  case hin21 => repeat' (first | exact Cover.nil | exact Take.here | apply Cover.cons | apply Take.there)
  case hc21 => intro ρ' hρ hR; exact dwrap_ok _
  rintro _ _ ⟨rfl, rfl⟩
  refine g_pure (p_assign rfl) rfl ?_
  refine g_nil ?_
  refine g_qt ?_
  refine g_ret ?_
  exact g_post (rs := [.tmp 4]) rfl (.tmp rfl .nil) ⟨rfl, rfl⟩ .nil
theorem ddiv_ok {ρ : Nat → Obj → Prop} (a b : Int) : Con Try.prog ρ 127 #[.int .i64 a, .int .i64 b] [] (fun v H => v = .int .i64 (if wr b = 0 then 0 else wr ((wr a).tdiv (wr b))) ∧ H = []) := by
  have hm := tdiv_in (y := wr b) (wr_in a)
  refine con_intro Try.func127 Try.call127 rfl Try.ntmps127 rfl (L := [(0, _), (1, _)]) rfl fun w hh => ?_
  refine g_seq ?_
  refine g_region ?_
  refine g_pure (p_assign rfl) rfl ?_
  refine g_nil ?_
  refine g_qt ?_
  refine g_seq ?_
  refine g_seq ?_
  refine g_region ?_
  refine g_pure (p_move rfl) rfl ?_
  refine g_call (Hin := []) (Hr := ?hr22) (R := ?rr22) rfl rfl rfl ?hin22 ?hc22 ?hk22
  case hin22 => repeat' (first | exact Cover.nil | exact Take.here | apply Cover.cons | apply Take.there)
  case hc22 => intro ρ' hρ hR; exact dwrap_ok _
  rintro _ _ ⟨rfl, rfl⟩
  refine g_pure (p_eql rfl rfl) rfl ?_
  refine g_nil ?_
  refine g_qt ?_
  refine g_ifdL rfl (fun h1 => ?_) (fun h1 => ?_)
  · refine g_seq ?_
    refine g_region ?_
    refine g_pure (p_assign rfl) rfl ?_
    refine g_nil ?_
    refine g_qt ?_
    refine g_ret ?_
    refine g_qt_ret ?_
    exact g_post (rs := [.tmp 4]) rfl (.tmp rfl .nil) ⟨by first | (rw [if_pos (by assumption)]; rfl) | (rw [if_neg (by assumption)]; show Value.int _ _ = _; rw [i64_in (by omega) (by omega)]), rfl⟩ .nil
  · refine g_skip ?_
    refine g_qt ?_
    refine g_seq ?_
    refine g_region ?_
    refine g_pure (p_move rfl) rfl ?_
    refine g_call (Hin := []) (Hr := ?hr23) (R := ?rr23) rfl rfl rfl ?hin23 ?hc23 ?hk23
    case hin23 => repeat' (first | exact Cover.nil | exact Take.here | apply Cover.cons | apply Take.there)
    case hc23 => intro ρ' hρ hR; exact dwrap_ok _
    rintro _ _ ⟨rfl, rfl⟩
    refine g_pure (p_move rfl) rfl ?_
    refine g_call (Hin := []) (Hr := ?hr24) (R := ?rr24) rfl rfl rfl ?hin24 ?hc24 ?hk24
    case hin24 => repeat' (first | exact Cover.nil | exact Take.here | apply Cover.cons | apply Take.there)
    case hc24 => intro ρ' hρ hR; exact dwrap_ok _
    rintro _ _ ⟨rfl, rfl⟩
    refine g_pure (p_quo rfl rfl (by assumption)) rfl ?_
    refine g_call (Hin := []) (Hr := ?hr25) (R := ?rr25) rfl rfl rfl ?hin25 ?hc25 ?hk25
    case hin25 => repeat' (first | exact Cover.nil | exact Take.here | apply Cover.cons | apply Take.there)
    case hc25 => intro ρ' hρ hR; exact dwrap_ok _
    rintro _ _ ⟨rfl, rfl⟩
    refine g_pure (p_assign rfl) rfl ?_
    refine g_nil ?_
    refine g_qt ?_
    refine g_ret ?_
    exact g_post (rs := [.tmp 4]) rfl (.tmp rfl .nil) ⟨by first | (rw [if_pos (by assumption)]; rfl) | (rw [if_neg (by assumption)]; show Value.int _ _ = _; rw [i64_in (by omega) (by omega)]), rfl⟩ .nil
theorem dmod_ok {ρ : Nat → Obj → Prop} (a b : Int) : Con Try.prog ρ 128 #[.int .i64 a, .int .i64 b] [] (fun v H => v = .int .i64 (if wr b = 0 then wr a else (wr a).tmod (wr b)) ∧ H = []) := by
  refine con_intro Try.func128 Try.call128 rfl Try.ntmps128 rfl (L := [(0, _), (1, _)]) rfl fun w hh => ?_
  refine g_seq ?_
  refine g_region ?_
  refine g_pure (p_assign rfl) rfl ?_
  refine g_nil ?_
  refine g_qt ?_
  refine g_seq ?_
  refine g_seq ?_
  refine g_region ?_
  refine g_pure (p_move rfl) rfl ?_
  refine g_call (Hin := []) (Hr := ?hr26) (R := ?rr26) rfl rfl rfl ?hin26 ?hc26 ?hk26
  case hin26 => repeat' (first | exact Cover.nil | exact Take.here | apply Cover.cons | apply Take.there)
  case hc26 => intro ρ' hρ hR; exact dwrap_ok _
  rintro _ _ ⟨rfl, rfl⟩
  refine g_pure (p_eql rfl rfl) rfl ?_
  refine g_nil ?_
  refine g_qt ?_
  refine g_ifdL rfl (fun h1 => ?_) (fun h1 => ?_)
  · refine g_seq ?_
    refine g_region ?_
    refine g_pure (p_move rfl) rfl ?_
    refine g_call (Hin := []) (Hr := ?hr27) (R := ?rr27) rfl rfl rfl ?hin27 ?hc27 ?hk27
    case hin27 => repeat' (first | exact Cover.nil | exact Take.here | apply Cover.cons | apply Take.there)
    case hc27 => intro ρ' hρ hR; exact dwrap_ok _
    rintro _ _ ⟨rfl, rfl⟩
    refine g_pure (p_assign rfl) rfl ?_
    refine g_nil ?_
    refine g_qt ?_
    refine g_ret ?_
    refine g_qt_ret ?_
    exact g_post (rs := [.tmp 4]) rfl (.tmp rfl .nil) ⟨by first | (rw [if_pos (by assumption)]; rfl) | (rw [if_neg (by assumption)]; rfl), rfl⟩ .nil
  · refine g_skip ?_
    refine g_qt ?_
    refine g_seq ?_
    refine g_region ?_
    refine g_pure (p_move rfl) rfl ?_
    refine g_call (Hin := []) (Hr := ?hr28) (R := ?rr28) rfl rfl rfl ?hin28 ?hc28 ?hk28
    case hin28 => repeat' (first | exact Cover.nil | exact Take.here | apply Cover.cons | apply Take.there)
    case hc28 => intro ρ' hρ hR; exact dwrap_ok _
    rintro _ _ ⟨rfl, rfl⟩
    refine g_pure (p_move rfl) rfl ?_
    refine g_call (Hin := []) (Hr := ?hr29) (R := ?rr29) rfl rfl rfl ?hin29 ?hc29 ?hk29
    case hin29 => repeat' (first | exact Cover.nil | exact Take.here | apply Cover.cons | apply Take.there)
    case hc29 => intro ρ' hρ hR; exact dwrap_ok _
    rintro _ _ ⟨rfl, rfl⟩
    refine g_pure (p_rem rfl rfl (by assumption)) rfl ?_
    refine g_pure (p_assign rfl) rfl ?_
    refine g_nil ?_
    refine g_qt ?_
    refine g_ret ?_
    exact g_post (rs := [.tmp 4]) rfl (.tmp rfl .nil) ⟨by first | (rw [if_pos (by assumption)]; rfl) | (rw [if_neg (by assumption)]; rfl), rfl⟩ .nil
theorem one_ok {ρ : Nat → Obj → Prop} (b : Bool) : Con Try.prog ρ 123 #[.bool b] [] (fun v H => v = .int .i64 (truth b) ∧ H = []) := by
  refine con_intro Try.func123 Try.call123 rfl Try.ntmps123 rfl (L := [(0, _)]) rfl fun w hh => ?_
  refine g_seq ?_
  refine g_region ?_
  refine g_pure (p_assign rfl) rfl ?_
  refine g_nil ?_
  refine g_qt ?_
  refine g_seq ?_
  refine g_seq ?_
  refine g_region ?_
  refine g_pure (p_move rfl) rfl ?_
  refine g_nil ?_
  refine g_qt ?_
  refine g_ifL rfl (fun h1 => ?_) (fun h1 => ?_)
  · refine g_seq ?_
    refine g_region ?_
    refine g_pure (p_assign rfl) rfl ?_
    refine g_nil ?_
    refine g_qt ?_
    refine g_ret ?_
    refine g_qt_ret ?_
    exact g_post (rs := [.tmp 2]) rfl (.tmp rfl .nil) ⟨by rw [h1]; rfl, rfl⟩ .nil
  · refine g_skip ?_
    refine g_qt ?_
    refine g_seq ?_
    refine g_region ?_
    refine g_pure (p_assign rfl) rfl ?_
    refine g_nil ?_
    refine g_qt ?_
    refine g_ret ?_
    exact g_post (rs := [.tmp 2]) rfl (.tmp rfl .nil) ⟨by rw [h1]; rfl, rfl⟩ .nil
theorem operands_ok {ρ : Nat → Obj → Prop} {op k : Int} {n : Nat} (hg : groupF op = (k, n)) : Con Try.prog ρ 101 #[.int .i64 op] [] (fun v H => v = .int .i64 n ∧ H = []) := by
  have hn : (groupF op).2 = n := by rw [hg]
  refine con_intro Try.func101 Try.call101 rfl Try.ntmps101 rfl (L := [(0, _)]) rfl fun w hh => ?_
  refine g_seq ?_
  refine g_region ?_
  refine g_pure (p_assign rfl) rfl ?_
  refine g_nil ?_
  refine g_qt ?_
  refine g_seq ?_
  refine g_seq ?_
  refine g_region ?_
  refine g_pure (p_move rfl) rfl ?_
  refine g_pure (p_eql rfl rfl) rfl ?_
  refine g_pure (p_move rfl) rfl ?_
  refine g_splitd rfl rfl (fun h1 => ?_) (fun h1 => ?_)
  · refine g_no rfl rfl rfl rfl ?_
    refine g_no rfl rfl rfl rfl ?_
    first | refine g_pure (p_pickt rfl rfl) rfl ?_ | refine g_pure (p_pickf rfl rfl) rfl ?_
    refine g_nil ?_
    refine g_qt ?_
    refine g_ift rfl ?_
    refine g_seq ?_
    refine g_region ?_
    refine g_pure (p_assign rfl) rfl ?_
    refine g_nil ?_
    refine g_qt ?_
    refine g_ret ?_
    refine g_qt_ret ?_
    exact g_post (rs := [.tmp 2]) rfl (.tmp rfl .nil) ⟨by rw [← hn]; unfold groupF; (repeat' split) <;> first | rfl | (exfalso; omega), rfl⟩ .nil
  · refine g_yes rfl rfl ?_
    refine g_pure (p_move rfl) rfl ?_
    refine g_yes rfl rfl ?_
    refine g_pure (p_eql rfl rfl) rfl ?_
    first | refine g_pure (p_pickt rfl rfl) rfl ?_ | refine g_pure (p_pickf rfl rfl) rfl ?_
    refine g_nil ?_
    refine g_qt ?_
    refine g_ifdL rfl (fun h3 => ?_) (fun h3 => ?_)
    · refine g_seq ?_
      refine g_region ?_
      refine g_pure (p_assign rfl) rfl ?_
      refine g_nil ?_
      refine g_qt ?_
      refine g_ret ?_
      refine g_qt_ret ?_
      exact g_post (rs := [.tmp 2]) rfl (.tmp rfl .nil) ⟨by rw [← hn]; unfold groupF; (repeat' split) <;> first | rfl | (exfalso; omega), rfl⟩ .nil
    · refine g_skip ?_
      refine g_qt ?_
      refine g_seq ?_
      refine g_seq ?_
      refine g_region ?_
      refine g_pure (p_move rfl) rfl ?_
      refine g_pure (p_gtr rfl rfl) rfl ?_
      refine g_pure (p_move rfl) rfl ?_
      refine g_splitd rfl rfl (fun h4 => ?_) (fun h4 => ?_)
      · refine g_yes rfl rfl ?_
        refine g_pure (p_move rfl) rfl ?_
        refine g_yes rfl rfl ?_
        refine g_pure (p_leq rfl rfl) rfl ?_
        first | refine g_pure (p_pickt rfl rfl) rfl ?_ | refine g_pure (p_pickf rfl rfl) rfl ?_
        refine g_nil ?_
        refine g_qt ?_
        refine g_ifdL rfl (fun h5 => ?_) (fun h5 => ?_)
        · refine g_seq ?_
          refine g_region ?_
          refine g_pure (p_assign rfl) rfl ?_
          refine g_nil ?_
          refine g_qt ?_
          refine g_ret ?_
          refine g_qt_ret ?_
          exact g_post (rs := [.tmp 2]) rfl (.tmp rfl .nil) ⟨by rw [← hn]; unfold groupF; (repeat' split) <;> first | rfl | (exfalso; omega), rfl⟩ .nil
        · refine g_skip ?_
          refine g_qt ?_
          refine g_seq ?_
          refine g_region ?_
          refine g_pure (p_assign rfl) rfl ?_
          refine g_nil ?_
          refine g_qt ?_
          refine g_ret ?_
          exact g_post (rs := [.tmp 2]) rfl (.tmp rfl .nil) ⟨by rw [← hn]; unfold groupF; (repeat' split) <;> first | rfl | (exfalso; omega), rfl⟩ .nil
      · refine g_no rfl rfl rfl rfl ?_
        refine g_no rfl rfl rfl rfl ?_
        first | refine g_pure (p_pickt rfl rfl) rfl ?_ | refine g_pure (p_pickf rfl rfl) rfl ?_
        refine g_nil ?_
        refine g_qt ?_
        refine g_iff rfl ?_
        refine g_skip ?_
        refine g_qt ?_
        refine g_seq ?_
        refine g_region ?_
        refine g_pure (p_assign rfl) rfl ?_
        refine g_nil ?_
        refine g_qt ?_
        refine g_ret ?_
        exact g_post (rs := [.tmp 2]) rfl (.tmp rfl .nil) ⟨by rw [← hn]; unfold groupF; (repeat' split) <;> first | rfl | (exfalso; omega), rfl⟩ .nil
theorem boolean_ok {ρ : Nat → Obj → Prop} {op k : Int} {n : Nat} (hg : groupF op = (k, n)) : Con Try.prog ρ 102 #[.int .i64 op] [] (fun v H => v = .bool (decide (k = 1)) ∧ H = []) := by
  have hn : (groupF op).1 = k := by rw [hg]
  refine con_intro Try.func102 Try.call102 rfl Try.ntmps102 rfl (L := [(0, _)]) rfl fun w hh => ?_
  refine g_seq ?_
  refine g_region ?_
  refine g_pure (p_assign rfl) rfl ?_
  refine g_nil ?_
  refine g_qt ?_
  refine g_seq ?_
  refine g_region ?_
  refine g_pure (p_move rfl) rfl ?_
  refine g_pure (p_eql rfl rfl) rfl ?_
  refine g_pure (p_move rfl) rfl ?_
  refine g_splitd rfl rfl (fun h1 => ?_) (fun h1 => ?_)
  · refine g_no rfl rfl rfl rfl ?_
    refine g_no rfl rfl rfl rfl ?_
    first | refine g_pure (p_pickt rfl rfl) rfl ?_ | refine g_pure (p_pickf rfl rfl) rfl ?_
    refine g_pure (p_move rfl) rfl ?_
    refine g_no rfl rfl rfl rfl ?_
    refine g_no rfl rfl rfl rfl ?_
    first | refine g_pure (p_pickt rfl rfl) rfl ?_ | refine g_pure (p_pickf rfl rfl) rfl ?_
    refine g_pure (p_move rfl) rfl ?_
    refine g_no rfl rfl rfl rfl ?_
    refine g_no rfl rfl rfl rfl ?_
    first | refine g_pure (p_pickt rfl rfl) rfl ?_ | refine g_pure (p_pickf rfl rfl) rfl ?_
    refine g_pure (p_assign rfl) rfl ?_
    refine g_nil ?_
    refine g_qt ?_
    refine g_ret ?_
    exact g_post (rs := [.tmp 2]) rfl (.tmp rfl .nil) ⟨by rw [← hn]; unfold groupF; (repeat' split) <;> first | rfl | (exfalso; omega) | (show Value.bool _ = Value.bool _; congr 1; simp; omega), rfl⟩ .nil
  · refine g_yes rfl rfl ?_
    refine g_pure (p_move rfl) rfl ?_
    refine g_yes rfl rfl ?_
    refine g_pure (p_eql rfl rfl) rfl ?_
    first | refine g_pure (p_pickt rfl rfl) rfl ?_ | refine g_pure (p_pickf rfl rfl) rfl ?_
    refine g_pure (p_move rfl) rfl ?_
    refine g_splitd rfl rfl (fun h4 => ?_) (fun h4 => ?_)
    · refine g_no rfl rfl rfl rfl ?_
      refine g_no rfl rfl rfl rfl ?_
      first | refine g_pure (p_pickt rfl rfl) rfl ?_ | refine g_pure (p_pickf rfl rfl) rfl ?_
      refine g_pure (p_move rfl) rfl ?_
      refine g_no rfl rfl rfl rfl ?_
      refine g_no rfl rfl rfl rfl ?_
      first | refine g_pure (p_pickt rfl rfl) rfl ?_ | refine g_pure (p_pickf rfl rfl) rfl ?_
      refine g_pure (p_assign rfl) rfl ?_
      refine g_nil ?_
      refine g_qt ?_
      refine g_ret ?_
      exact g_post (rs := [.tmp 2]) rfl (.tmp rfl .nil) ⟨by rw [← hn]; unfold groupF; (repeat' split) <;> first | rfl | (exfalso; omega) | (show Value.bool _ = Value.bool _; congr 1; simp; omega), rfl⟩ .nil
    · refine g_yes rfl rfl ?_
      refine g_pure (p_move rfl) rfl ?_
      refine g_yes rfl rfl ?_
      refine g_pure (p_eql rfl rfl) rfl ?_
      first | refine g_pure (p_pickt rfl rfl) rfl ?_ | refine g_pure (p_pickf rfl rfl) rfl ?_
      refine g_pure (p_move rfl) rfl ?_
      refine g_splitd rfl rfl (fun h6 => ?_) (fun h6 => ?_)
      · refine g_no rfl rfl rfl rfl ?_
        refine g_no rfl rfl rfl rfl ?_
        first | refine g_pure (p_pickt rfl rfl) rfl ?_ | refine g_pure (p_pickf rfl rfl) rfl ?_
        refine g_pure (p_assign rfl) rfl ?_
        refine g_nil ?_
        refine g_qt ?_
        refine g_ret ?_
        exact g_post (rs := [.tmp 2]) rfl (.tmp rfl .nil) ⟨by rw [← hn]; unfold groupF; (repeat' split) <;> first | rfl | (exfalso; omega) | (show Value.bool _ = Value.bool _; congr 1; simp; omega), rfl⟩ .nil
      · refine g_yes rfl rfl ?_
        refine g_pure (p_move rfl) rfl ?_
        refine g_yes rfl rfl ?_
        refine g_pure (p_eql rfl rfl) rfl ?_
        first | refine g_pure (p_pickt rfl rfl) rfl ?_ | refine g_pure (p_pickf rfl rfl) rfl ?_
        refine g_pure (p_assign rfl) rfl ?_
        refine g_nil ?_
        refine g_qt ?_
        refine g_ret ?_
        exact g_post (rs := [.tmp 2]) rfl (.tmp rfl .nil) ⟨by rw [← hn]; unfold groupF; (repeat' split) <;> first | rfl | (exfalso; omega) | (show Value.bool _ = Value.bool _; congr 1; simp; omega), rfl⟩ .nil
theorem equality_ok {ρ : Nat → Obj → Prop} {op k : Int} {n : Nat} (hg : groupF op = (k, n)) : Con Try.prog ρ 103 #[.int .i64 op] [] (fun v H => v = .bool (decide (k = 3)) ∧ H = []) := by
  have hn : (groupF op).1 = k := by rw [hg]
  refine con_intro Try.func103 Try.call103 rfl Try.ntmps103 rfl (L := [(0, _)]) rfl fun w hh => ?_
  refine g_seq ?_
  refine g_region ?_
  refine g_pure (p_assign rfl) rfl ?_
  refine g_nil ?_
  refine g_qt ?_
  refine g_seq ?_
  refine g_region ?_
  refine g_pure (p_move rfl) rfl ?_
  refine g_pure (p_eql rfl rfl) rfl ?_
  refine g_pure (p_move rfl) rfl ?_
  refine g_splitd rfl rfl (fun h1 => ?_) (fun h1 => ?_)
  · refine g_no rfl rfl rfl rfl ?_
    refine g_no rfl rfl rfl rfl ?_
    first | refine g_pure (p_pickt rfl rfl) rfl ?_ | refine g_pure (p_pickf rfl rfl) rfl ?_
    refine g_pure (p_assign rfl) rfl ?_
    refine g_nil ?_
    refine g_qt ?_
    refine g_ret ?_
    exact g_post (rs := [.tmp 2]) rfl (.tmp rfl .nil) ⟨by rw [← hn]; unfold groupF; (repeat' split) <;> first | rfl | (exfalso; omega) | (show Value.bool _ = Value.bool _; congr 1; simp; omega), rfl⟩ .nil
  · refine g_yes rfl rfl ?_
    refine g_pure (p_move rfl) rfl ?_
    refine g_yes rfl rfl ?_
    refine g_pure (p_eql rfl rfl) rfl ?_
    first | refine g_pure (p_pickt rfl rfl) rfl ?_ | refine g_pure (p_pickf rfl rfl) rfl ?_
    refine g_pure (p_assign rfl) rfl ?_
    refine g_nil ?_
    refine g_qt ?_
    refine g_ret ?_
    exact g_post (rs := [.tmp 2]) rfl (.tmp rfl .nil) ⟨by rw [← hn]; unfold groupF; (repeat' split) <;> first | rfl | (exfalso; omega) | (show Value.bool _ = Value.bool _; congr 1; simp; omega), rfl⟩ .nil
end Go.Proofs.Ytkebblmmgcgjkaa
