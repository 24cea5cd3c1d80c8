/- Chapter 5: operators applied by the document; operators on cells. Conditions: none. -/
import Derived.Test.YtkebblmmgcgjkaaC2
namespace Go.Z.Val
set_option maxRecDepth 8000
set_option linter.unusedVariables false
set_option linter.unusedSimpArgs false
set_option linter.unusedSectionVars false
open Go Go.Z
theorem cell_at {cs : List Value} {o : Nat} {l : List Ce} (h : ∀ j v, (l.flatMap encC)[j]? = some v → cs[o + j]? = some v) {k : Nat} (hk : k < l.length) : sub cs (o + k * 2) 2 = some (encC l[k]) ∧ cs[o + k * 2 + 0]? = some (.int .i64 l[k].1) ∧ cs[o + k * 2 + 1]? = some (.int .i64 l[k].2) := by
  have hr := rows_at encC 2 encC_len l k hk
  have h1 := sub_of (o := o) (i := k * 2) (k := 2) h (by omega) hr.2
  rw [hr.1] at h1
  have h2 := (sub_spec h1).2
  exact ⟨h1, h2 0 _ rfl, h2 1 _ rfl⟩
theorem any_take {l : List Ce} {j : Nat} (h : j < l.length) (p : Ce → Bool) : (l.take (j + 1)).any p = ((l.take j).any p || p l[j]) := by
  rw [List.take_add_one, List.getElem?_eq_getElem h, Option.toList_some, List.any_append]; simp
theorem map_take {α β : Type} {l : List α} {j : Nat} (h : j < l.length) (f : α → β) : (l.take (j + 1)).map f = (l.take j).map f ++ [f l[j]] := by
  rw [List.take_add_one, List.getElem?_eq_getElem h, Option.toList_some, List.map_append]; rfl
end Go.Z.Val
namespace Go.Proofs.Ytkebblmmgcgjkaa
set_option maxRecDepth 8000
set_option linter.unusedVariables false
set_option linter.unusedSimpArgs false
set_option linter.unusedSectionVars false
open Go Go.Z Go.Z.Val

theorem dcompute_ok {ρ : Nat → Obj → Prop} {op a b : Int} (hop : 3 ≤ op ∧ op ≤ 16) (hab : op ≤ 5 → (a = 0 ∨ a = 1) ∧ (b = 0 ∨ b = 1)) : Con Try.prog ρ 105 #[.int .i64 op, .int .i64 a, .int .i64 b] [] (fun v H => ∃ r, v = .int .i64 r ∧ opF op a b = r ∧ H = []) := by
  refine con_intro Try.func105 Try.call105 rfl Try.ntmps105 rfl (L := [(0, _), (1, _), (2, _)]) rfl fun w hh => ?_
  refine g_seq ?_
  refine g_region ?_
  refine g_pure (p_assign rfl) rfl ?_
  refine g_nil ?_
  refine g_qt ?_
  refine g_seq ?_
  refine g_seq ?_
  refine g_region ?_
  refine g_pure (p_move rfl) rfl ?_
  refine g_nil ?_
  refine g_qt ?_
  refine g_block ?_
  refine g_seq ?_
  refine g_region ?_
  refine g_pure (p_eql rfl rfl) rfl ?_
  refine g_pure (p_assign rfl) rfl ?_
  refine g_nil ?_
  refine g_qt ?_
  refine g_ifdL rfl (fun h1 => ?_) (fun h1 => ?_)
  · refine g_seq ?_
    refine g_region ?_
    refine g_pure (p_move rfl) rfl ?_
    refine g_pure (p_move rfl) rfl ?_
    refine g_pure (p_muli rfl rfl (by obtain ⟨ha, hb⟩ := hab (by omega); rcases ha with rfl | rfl <;> rcases hb with rfl | rfl <;> decide)) rfl ?_
    refine g_pure (p_assign rfl) rfl ?_
    refine g_nil ?_
    refine g_qt ?_
    refine g_ret ?_
    refine g_qb_ret ?_
    refine g_qt_ret ?_
    exact g_post (rs := [.tmp 6]) rfl (.tmp rfl .nil) ⟨_, rfl, by first | ((have h5 : op ≤ 5 := by omega); (have hab5 := hab h5); rcases hab5 with ⟨ha, hb⟩; rcases (show op = 3 ∨ op = 4 ∨ op = 5 by omega) with rfl | rfl | rfl <;> first | (exfalso; omega) | (rcases ha with rfl | rfl <;> rcases hb with rfl | rfl <;> rfl)) | (have e : op = 6 := by omega); subst e; rfl | (have e : op = 7 := by omega); subst e; rfl | (have e : op = 8 := by omega); subst e; rfl | (have e : op = 9 := by omega); subst e; rfl | (have e : op = 10 := by omega); subst e; rfl | (have e : op = 11 := by omega); subst e; rfl | (have e : op = 12 := by omega); subst e; rfl | (have e : op = 13 := by omega); subst e; rfl | (have e : op = 14 := by omega); subst e; rfl | (have e : op = 15 := by omega); subst e; rfl | (have e : op = 16 := by omega); subst e; rfl, rfl⟩ .nil
  · refine g_seq ?_
    refine g_region ?_
    refine g_pure (p_eql rfl rfl) rfl ?_
    refine g_pure (p_assign rfl) rfl ?_
    refine g_nil ?_
    refine g_qt ?_
    refine g_ifdL rfl (fun h2 => ?_) (fun h2 => ?_)
    · refine g_seq ?_
      refine g_region ?_
      refine g_pure (p_move rfl) rfl ?_
      refine g_pure (p_move rfl) rfl ?_
      refine g_pure (p_addi rfl rfl (by obtain ⟨ha, hb⟩ := hab (by omega); omega)) rfl ?_
      refine g_pure (p_gtr rfl rfl) rfl ?_
      refine g_call (Hin := []) (Hr := ?hr1) (R := ?rr1) rfl rfl rfl ?hin1 ?hc1 ?hk1
      case hin1 => repeat' (first | exact Cover.nil | exact Take.here | apply Cover.cons | apply Take.there)
      case hc1 => intro ρ' hρ hR; exact one_ok _
      rintro _ _ ⟨rfl, rfl⟩
      refine g_pure (p_assign rfl) rfl ?_
      refine g_nil ?_
      refine g_qt ?_
      refine g_ret ?_
      refine g_qb_ret ?_
      refine g_qt_ret ?_
      exact g_post (rs := [.tmp 6]) rfl (.tmp rfl .nil) ⟨_, rfl, by first | ((have h5 : op ≤ 5 := by omega); (have hab5 := hab h5); rcases hab5 with ⟨ha, hb⟩; rcases (show op = 3 ∨ op = 4 ∨ op = 5 by omega) with rfl | rfl | rfl <;> first | (exfalso; omega) | (rcases ha with rfl | rfl <;> rcases hb with rfl | rfl <;> rfl)) | (have e : op = 6 := by omega); subst e; rfl | (have e : op = 7 := by omega); subst e; rfl | (have e : op = 8 := by omega); subst e; rfl | (have e : op = 9 := by omega); subst e; rfl | (have e : op = 10 := by omega); subst e; rfl | (have e : op = 11 := by omega); subst e; rfl | (have e : op = 12 := by omega); subst e; rfl | (have e : op = 13 := by omega); subst e; rfl | (have e : op = 14 := by omega); subst e; rfl | (have e : op = 15 := by omega); subst e; rfl | (have e : op = 16 := by omega); subst e; rfl, rfl⟩ .nil
    · refine g_seq ?_
      refine g_region ?_
      refine g_pure (p_eql rfl rfl) rfl ?_
      refine g_pure (p_assign rfl) rfl ?_
      refine g_nil ?_
      refine g_qt ?_
      refine g_ifdL rfl (fun h3 => ?_) (fun h3 => ?_)
      · refine g_seq ?_
        refine g_region ?_
        refine g_pure (p_move rfl) rfl ?_
        refine g_pure (p_move rfl) rfl ?_
        refine g_pure (p_neq rfl rfl) rfl ?_
        refine g_call (Hin := []) (Hr := ?hr2) (R := ?rr2) rfl rfl rfl ?hin2 ?hc2 ?hk2
        case hin2 => repeat' (first | exact Cover.nil | exact Take.here | apply Cover.cons | apply Take.there)
        case hc2 => intro ρ' hρ hR; exact one_ok _
        rintro _ _ ⟨rfl, rfl⟩
        refine g_pure (p_assign rfl) rfl ?_
        refine g_nil ?_
        refine g_qt ?_
        refine g_ret ?_
        refine g_qb_ret ?_
        refine g_qt_ret ?_
        exact g_post (rs := [.tmp 6]) rfl (.tmp rfl .nil) ⟨_, rfl, by first | ((have h5 : op ≤ 5 := by omega); (have hab5 := hab h5); rcases hab5 with ⟨ha, hb⟩; rcases (show op = 3 ∨ op = 4 ∨ op = 5 by omega) with rfl | rfl | rfl <;> first | (exfalso; omega) | (rcases ha with rfl | rfl <;> rcases hb with rfl | rfl <;> rfl)) | (have e : op = 6 := by omega); subst e; rfl | (have e : op = 7 := by omega); subst e; rfl | (have e : op = 8 := by omega); subst e; rfl | (have e : op = 9 := by omega); subst e; rfl | (have e : op = 10 := by omega); subst e; rfl | (have e : op = 11 := by omega); subst e; rfl | (have e : op = 12 := by omega); subst e; rfl | (have e : op = 13 := by omega); subst e; rfl | (have e : op = 14 := by omega); subst e; rfl | (have e : op = 15 := by omega); subst e; rfl | (have e : op = 16 := by omega); subst e; rfl, rfl⟩ .nil
      · refine g_seq ?_
        refine g_region ?_
        refine g_pure (p_eql rfl rfl) rfl ?_
        refine g_pure (p_assign rfl) rfl ?_
        refine g_nil ?_
        refine g_qt ?_
        refine g_ifdL rfl (fun h4 => ?_) (fun h4 => ?_)
        · refine g_seq ?_
          refine g_region ?_
          refine g_pure (p_move rfl) rfl ?_
          refine g_pure (p_move rfl) rfl ?_
          refine g_call (Hin := []) (Hr := ?hr3) (R := ?rr3) rfl rfl rfl ?hin3 ?hc3 ?hk3
          case hin3 => repeat' (first | exact Cover.nil | exact Take.here | apply Cover.cons | apply Take.there)
          case hc3 => intro ρ' hρ hR; exact dadd_ok _ _
          rintro _ _ ⟨rfl, rfl⟩
          refine g_pure (p_assign rfl) rfl ?_
          refine g_nil ?_
          refine g_qt ?_
          refine g_ret ?_
          refine g_qb_ret ?_
          refine g_qt_ret ?_
          exact g_post (rs := [.tmp 6]) rfl (.tmp rfl .nil) ⟨_, rfl, by first | ((have h5 : op ≤ 5 := by omega); (have hab5 := hab h5); rcases hab5 with ⟨ha, hb⟩; rcases (show op = 3 ∨ op = 4 ∨ op = 5 by omega) with rfl | rfl | rfl <;> first | (exfalso; omega) | (rcases ha with rfl | rfl <;> rcases hb with rfl | rfl <;> rfl)) | (have e : op = 6 := by omega); subst e; rfl | (have e : op = 7 := by omega); subst e; rfl | (have e : op = 8 := by omega); subst e; rfl | (have e : op = 9 := by omega); subst e; rfl | (have e : op = 10 := by omega); subst e; rfl | (have e : op = 11 := by omega); subst e; rfl | (have e : op = 12 := by omega); subst e; rfl | (have e : op = 13 := by omega); subst e; rfl | (have e : op = 14 := by omega); subst e; rfl | (have e : op = 15 := by omega); subst e; rfl | (have e : op = 16 := by omega); subst e; rfl, rfl⟩ .nil
        · refine g_seq ?_
          refine g_region ?_
          refine g_pure (p_eql rfl rfl) rfl ?_
          refine g_pure (p_assign rfl) rfl ?_
          refine g_nil ?_
          refine g_qt ?_
          refine g_ifdL rfl (fun h5 => ?_) (fun h5 => ?_)
          · refine g_seq ?_
            refine g_region ?_
            refine g_pure (p_move rfl) rfl ?_
            refine g_pure (p_move rfl) rfl ?_
            refine g_call (Hin := []) (Hr := ?hr4) (R := ?rr4) rfl rfl rfl ?hin4 ?hc4 ?hk4
            case hin4 => repeat' (first | exact Cover.nil | exact Take.here | apply Cover.cons | apply Take.there)
            case hc4 => intro ρ' hρ hR; exact dsub_ok _ _
            rintro _ _ ⟨rfl, rfl⟩
            refine g_pure (p_assign rfl) rfl ?_
            refine g_nil ?_
            refine g_qt ?_
            refine g_ret ?_
            refine g_qb_ret ?_
            refine g_qt_ret ?_
            exact g_post (rs := [.tmp 6]) rfl (.tmp rfl .nil) ⟨_, rfl, by first | ((have h5 : op ≤ 5 := by omega); (have hab5 := hab h5); rcases hab5 with ⟨ha, hb⟩; rcases (show op = 3 ∨ op = 4 ∨ op = 5 by omega) with rfl | rfl | rfl <;> first | (exfalso; omega) | (rcases ha with rfl | rfl <;> rcases hb with rfl | rfl <;> rfl)) | (have e : op = 6 := by omega); subst e; rfl | (have e : op = 7 := by omega); subst e; rfl | (have e : op = 8 := by omega); subst e; rfl | (have e : op = 9 := by omega); subst e; rfl | (have e : op = 10 := by omega); subst e; rfl | (have e : op = 11 := by omega); subst e; rfl | (have e : op = 12 := by omega); subst e; rfl | (have e : op = 13 := by omega); subst e; rfl | (have e : op = 14 := by omega); subst e; rfl | (have e : op = 15 := by omega); subst e; rfl | (have e : op = 16 := by omega); subst e; rfl, rfl⟩ .nil
          · refine g_seq ?_
            refine g_region ?_
            refine g_pure (p_eql rfl rfl) rfl ?_
            refine g_pure (p_assign rfl) rfl ?_
            refine g_nil ?_
            refine g_qt ?_
            refine g_ifdL rfl (fun h6 => ?_) (fun h6 => ?_)
            · refine g_seq ?_
              refine g_region ?_
              refine g_pure (p_move rfl) rfl ?_
              refine g_pure (p_move rfl) rfl ?_
              refine g_call (Hin := []) (Hr := ?hr5) (R := ?rr5) rfl rfl rfl ?hin5 ?hc5 ?hk5
              case hin5 => repeat' (first | exact Cover.nil | exact Take.here | apply Cover.cons | apply Take.there)
              case hc5 => intro ρ' hρ hR; exact dmul_ok _ _
              rintro _ _ ⟨rfl, rfl⟩
              refine g_pure (p_assign rfl) rfl ?_
              refine g_nil ?_
              refine g_qt ?_
              refine g_ret ?_
              refine g_qb_ret ?_
              refine g_qt_ret ?_
              exact g_post (rs := [.tmp 6]) rfl (.tmp rfl .nil) ⟨_, rfl, by first | ((have h5 : op ≤ 5 := by omega); (have hab5 := hab h5); rcases hab5 with ⟨ha, hb⟩; rcases (show op = 3 ∨ op = 4 ∨ op = 5 by omega) with rfl | rfl | rfl <;> first | (exfalso; omega) | (rcases ha with rfl | rfl <;> rcases hb with rfl | rfl <;> rfl)) | (have e : op = 6 := by omega); subst e; rfl | (have e : op = 7 := by omega); subst e; rfl | (have e : op = 8 := by omega); subst e; rfl | (have e : op = 9 := by omega); subst e; rfl | (have e : op = 10 := by omega); subst e; rfl | (have e : op = 11 := by omega); subst e; rfl | (have e : op = 12 := by omega); subst e; rfl | (have e : op = 13 := by omega); subst e; rfl | (have e : op = 14 := by omega); subst e; rfl | (have e : op = 15 := by omega); subst e; rfl | (have e : op = 16 := by omega); subst e; rfl, rfl⟩ .nil
            · refine g_seq ?_
              refine g_region ?_
              refine g_pure (p_eql rfl rfl) rfl ?_
              refine g_pure (p_assign rfl) rfl ?_
              refine g_nil ?_
              refine g_qt ?_
              refine g_ifdL rfl (fun h7 => ?_) (fun h7 => ?_)
              · refine g_seq ?_
                refine g_region ?_
                refine g_pure (p_move rfl) rfl ?_
                refine g_pure (p_move rfl) rfl ?_
                refine g_call (Hin := []) (Hr := ?hr6) (R := ?rr6) rfl rfl rfl ?hin6 ?hc6 ?hk6
                case hin6 => repeat' (first | exact Cover.nil | exact Take.here | apply Cover.cons | apply Take.there)
                case hc6 => intro ρ' hρ hR; exact ddiv_ok _ _
                rintro _ _ ⟨rfl, rfl⟩
                refine g_pure (p_assign rfl) rfl ?_
                refine g_nil ?_
                refine g_qt ?_
                refine g_ret ?_
                refine g_qb_ret ?_
                refine g_qt_ret ?_
                exact g_post (rs := [.tmp 6]) rfl (.tmp rfl .nil) ⟨_, rfl, by first | ((have h5 : op ≤ 5 := by omega); (have hab5 := hab h5); rcases hab5 with ⟨ha, hb⟩; rcases (show op = 3 ∨ op = 4 ∨ op = 5 by omega) with rfl | rfl | rfl <;> first | (exfalso; omega) | (rcases ha with rfl | rfl <;> rcases hb with rfl | rfl <;> rfl)) | (have e : op = 6 := by omega); subst e; rfl | (have e : op = 7 := by omega); subst e; rfl | (have e : op = 8 := by omega); subst e; rfl | (have e : op = 9 := by omega); subst e; rfl | (have e : op = 10 := by omega); subst e; rfl | (have e : op = 11 := by omega); subst e; rfl | (have e : op = 12 := by omega); subst e; rfl | (have e : op = 13 := by omega); subst e; rfl | (have e : op = 14 := by omega); subst e; rfl | (have e : op = 15 := by omega); subst e; rfl | (have e : op = 16 := by omega); subst e; rfl, rfl⟩ .nil
              · refine g_seq ?_
                refine g_region ?_
                refine g_pure (p_eql rfl rfl) rfl ?_
                refine g_pure (p_assign rfl) rfl ?_
                refine g_nil ?_
                refine g_qt ?_
                refine g_ifdL rfl (fun h8 => ?_) (fun h8 => ?_)
                · refine g_seq ?_
                  refine g_region ?_
                  refine g_pure (p_move rfl) rfl ?_
                  refine g_pure (p_move rfl) rfl ?_
                  refine g_call (Hin := []) (Hr := ?hr7) (R := ?rr7) rfl rfl rfl ?hin7 ?hc7 ?hk7
                  case hin7 => repeat' (first | exact Cover.nil | exact Take.here | apply Cover.cons | apply Take.there)
                  case hc7 => intro ρ' hρ hR; exact dmod_ok _ _
                  rintro _ _ ⟨rfl, rfl⟩
                  refine g_pure (p_assign rfl) rfl ?_
                  refine g_nil ?_
                  refine g_qt ?_
                  refine g_ret ?_
                  refine g_qb_ret ?_
                  refine g_qt_ret ?_
                  exact g_post (rs := [.tmp 6]) rfl (.tmp rfl .nil) ⟨_, rfl, by first | ((have h5 : op ≤ 5 := by omega); (have hab5 := hab h5); rcases hab5 with ⟨ha, hb⟩; rcases (show op = 3 ∨ op = 4 ∨ op = 5 by omega) with rfl | rfl | rfl <;> first | (exfalso; omega) | (rcases ha with rfl | rfl <;> rcases hb with rfl | rfl <;> rfl)) | (have e : op = 6 := by omega); subst e; rfl | (have e : op = 7 := by omega); subst e; rfl | (have e : op = 8 := by omega); subst e; rfl | (have e : op = 9 := by omega); subst e; rfl | (have e : op = 10 := by omega); subst e; rfl | (have e : op = 11 := by omega); subst e; rfl | (have e : op = 12 := by omega); subst e; rfl | (have e : op = 13 := by omega); subst e; rfl | (have e : op = 14 := by omega); subst e; rfl | (have e : op = 15 := by omega); subst e; rfl | (have e : op = 16 := by omega); subst e; rfl, rfl⟩ .nil
                · refine g_seq ?_
                  refine g_region ?_
                  refine g_pure (p_eql rfl rfl) rfl ?_
                  refine g_pure (p_assign rfl) rfl ?_
                  refine g_nil ?_
                  refine g_qt ?_
                  refine g_ifdL rfl (fun h9 => ?_) (fun h9 => ?_)
                  · refine g_seq ?_
                    refine g_region ?_
                    refine g_pure (p_move rfl) rfl ?_
                    refine g_pure (p_move rfl) rfl ?_
                    refine g_pure (p_eql rfl rfl) rfl ?_
                    refine g_call (Hin := []) (Hr := ?hr8) (R := ?rr8) rfl rfl rfl ?hin8 ?hc8 ?hk8
                    case hin8 => repeat' (first | exact Cover.nil | exact Take.here | apply Cover.cons | apply Take.there)
                    case hc8 => intro ρ' hρ hR; exact one_ok _
                    rintro _ _ ⟨rfl, rfl⟩
                    refine g_pure (p_assign rfl) rfl ?_
                    refine g_nil ?_
                    refine g_qt ?_
                    refine g_ret ?_
                    refine g_qb_ret ?_
                    refine g_qt_ret ?_
                    exact g_post (rs := [.tmp 6]) rfl (.tmp rfl .nil) ⟨_, rfl, by first | ((have h5 : op ≤ 5 := by omega); (have hab5 := hab h5); rcases hab5 with ⟨ha, hb⟩; rcases (show op = 3 ∨ op = 4 ∨ op = 5 by omega) with rfl | rfl | rfl <;> first | (exfalso; omega) | (rcases ha with rfl | rfl <;> rcases hb with rfl | rfl <;> rfl)) | (have e : op = 6 := by omega); subst e; rfl | (have e : op = 7 := by omega); subst e; rfl | (have e : op = 8 := by omega); subst e; rfl | (have e : op = 9 := by omega); subst e; rfl | (have e : op = 10 := by omega); subst e; rfl | (have e : op = 11 := by omega); subst e; rfl | (have e : op = 12 := by omega); subst e; rfl | (have e : op = 13 := by omega); subst e; rfl | (have e : op = 14 := by omega); subst e; rfl | (have e : op = 15 := by omega); subst e; rfl | (have e : op = 16 := by omega); subst e; rfl, rfl⟩ .nil
                  · refine g_seq ?_
                    refine g_region ?_
                    refine g_pure (p_eql rfl rfl) rfl ?_
                    refine g_pure (p_assign rfl) rfl ?_
                    refine g_nil ?_
                    refine g_qt ?_
                    refine g_ifdL rfl (fun h10 => ?_) (fun h10 => ?_)
                    · refine g_seq ?_
                      refine g_region ?_
                      refine g_pure (p_move rfl) rfl ?_
                      refine g_pure (p_move rfl) rfl ?_
                      refine g_pure (p_neq rfl rfl) rfl ?_
                      refine g_call (Hin := []) (Hr := ?hr9) (R := ?rr9) rfl rfl rfl ?hin9 ?hc9 ?hk9
                      case hin9 => repeat' (first | exact Cover.nil | exact Take.here | apply Cover.cons | apply Take.there)
                      case hc9 => intro ρ' hρ hR; exact one_ok _
                      rintro _ _ ⟨rfl, rfl⟩
                      refine g_pure (p_assign rfl) rfl ?_
                      refine g_nil ?_
                      refine g_qt ?_
                      refine g_ret ?_
                      refine g_qb_ret ?_
                      refine g_qt_ret ?_
                      exact g_post (rs := [.tmp 6]) rfl (.tmp rfl .nil) ⟨_, rfl, by first | ((have h5 : op ≤ 5 := by omega); (have hab5 := hab h5); rcases hab5 with ⟨ha, hb⟩; rcases (show op = 3 ∨ op = 4 ∨ op = 5 by omega) with rfl | rfl | rfl <;> first | (exfalso; omega) | (rcases ha with rfl | rfl <;> rcases hb with rfl | rfl <;> rfl)) | (have e : op = 6 := by omega); subst e; rfl | (have e : op = 7 := by omega); subst e; rfl | (have e : op = 8 := by omega); subst e; rfl | (have e : op = 9 := by omega); subst e; rfl | (have e : op = 10 := by omega); subst e; rfl | (have e : op = 11 := by omega); subst e; rfl | (have e : op = 12 := by omega); subst e; rfl | (have e : op = 13 := by omega); subst e; rfl | (have e : op = 14 := by omega); subst e; rfl | (have e : op = 15 := by omega); subst e; rfl | (have e : op = 16 := by omega); subst e; rfl, rfl⟩ .nil
                    · refine g_seq ?_
                      refine g_region ?_
                      refine g_pure (p_eql rfl rfl) rfl ?_
                      refine g_pure (p_assign rfl) rfl ?_
                      refine g_nil ?_
                      refine g_qt ?_
                      refine g_ifdL rfl (fun h11 => ?_) (fun h11 => ?_)
                      · refine g_seq ?_
                        refine g_region ?_
                        refine g_pure (p_move rfl) rfl ?_
                        refine g_pure (p_move rfl) rfl ?_
                        refine g_pure (p_lss rfl rfl) rfl ?_
                        refine g_call (Hin := []) (Hr := ?hr10) (R := ?rr10) rfl rfl rfl ?hin10 ?hc10 ?hk10
                        case hin10 => repeat' (first | exact Cover.nil | exact Take.here | apply Cover.cons | apply Take.there)
                        case hc10 => intro ρ' hρ hR; exact one_ok _
                        rintro _ _ ⟨rfl, rfl⟩
                        refine g_pure (p_assign rfl) rfl ?_
                        refine g_nil ?_
                        refine g_qt ?_
                        refine g_ret ?_
                        refine g_qb_ret ?_
                        refine g_qt_ret ?_
                        exact g_post (rs := [.tmp 6]) rfl (.tmp rfl .nil) ⟨_, rfl, by first | ((have h5 : op ≤ 5 := by omega); (have hab5 := hab h5); rcases hab5 with ⟨ha, hb⟩; rcases (show op = 3 ∨ op = 4 ∨ op = 5 by omega) with rfl | rfl | rfl <;> first | (exfalso; omega) | (rcases ha with rfl | rfl <;> rcases hb with rfl | rfl <;> rfl)) | (have e : op = 6 := by omega); subst e; rfl | (have e : op = 7 := by omega); subst e; rfl | (have e : op = 8 := by omega); subst e; rfl | (have e : op = 9 := by omega); subst e; rfl | (have e : op = 10 := by omega); subst e; rfl | (have e : op = 11 := by omega); subst e; rfl | (have e : op = 12 := by omega); subst e; rfl | (have e : op = 13 := by omega); subst e; rfl | (have e : op = 14 := by omega); subst e; rfl | (have e : op = 15 := by omega); subst e; rfl | (have e : op = 16 := by omega); subst e; rfl, rfl⟩ .nil
                      · refine g_seq ?_
                        refine g_region ?_
                        refine g_pure (p_eql rfl rfl) rfl ?_
                        refine g_pure (p_assign rfl) rfl ?_
                        refine g_nil ?_
                        refine g_qt ?_
                        refine g_ifdL rfl (fun h12 => ?_) (fun h12 => ?_)
                        · refine g_seq ?_
                          refine g_region ?_
                          refine g_pure (p_move rfl) rfl ?_
                          refine g_pure (p_move rfl) rfl ?_
                          refine g_pure (p_leq rfl rfl) rfl ?_
                          refine g_call (Hin := []) (Hr := ?hr11) (R := ?rr11) rfl rfl rfl ?hin11 ?hc11 ?hk11
                          case hin11 => repeat' (first | exact Cover.nil | exact Take.here | apply Cover.cons | apply Take.there)
                          case hc11 => intro ρ' hρ hR; exact one_ok _
                          rintro _ _ ⟨rfl, rfl⟩
                          refine g_pure (p_assign rfl) rfl ?_
                          refine g_nil ?_
                          refine g_qt ?_
                          refine g_ret ?_
                          refine g_qb_ret ?_
                          refine g_qt_ret ?_
                          exact g_post (rs := [.tmp 6]) rfl (.tmp rfl .nil) ⟨_, rfl, by first | ((have h5 : op ≤ 5 := by omega); (have hab5 := hab h5); rcases hab5 with ⟨ha, hb⟩; rcases (show op = 3 ∨ op = 4 ∨ op = 5 by omega) with rfl | rfl | rfl <;> first | (exfalso; omega) | (rcases ha with rfl | rfl <;> rcases hb with rfl | rfl <;> rfl)) | (have e : op = 6 := by omega); subst e; rfl | (have e : op = 7 := by omega); subst e; rfl | (have e : op = 8 := by omega); subst e; rfl | (have e : op = 9 := by omega); subst e; rfl | (have e : op = 10 := by omega); subst e; rfl | (have e : op = 11 := by omega); subst e; rfl | (have e : op = 12 := by omega); subst e; rfl | (have e : op = 13 := by omega); subst e; rfl | (have e : op = 14 := by omega); subst e; rfl | (have e : op = 15 := by omega); subst e; rfl | (have e : op = 16 := by omega); subst e; rfl, rfl⟩ .nil
                        · refine g_seq ?_
                          refine g_region ?_
                          refine g_pure (p_eql rfl rfl) rfl ?_
                          refine g_pure (p_assign rfl) rfl ?_
                          refine g_nil ?_
                          refine g_qt ?_
                          refine g_ifdL rfl (fun h13 => ?_) (fun h13 => ?_)
                          · refine g_seq ?_
                            refine g_region ?_
                            refine g_pure (p_move rfl) rfl ?_
                            refine g_pure (p_move rfl) rfl ?_
                            refine g_pure (p_gtr rfl rfl) rfl ?_
                            refine g_call (Hin := []) (Hr := ?hr12) (R := ?rr12) rfl rfl rfl ?hin12 ?hc12 ?hk12
                            case hin12 => repeat' (first | exact Cover.nil | exact Take.here | apply Cover.cons | apply Take.there)
                            case hc12 => intro ρ' hρ hR; exact one_ok _
                            rintro _ _ ⟨rfl, rfl⟩
                            refine g_pure (p_assign rfl) rfl ?_
                            refine g_nil ?_
                            refine g_qt ?_
                            refine g_ret ?_
                            refine g_qb_ret ?_
                            refine g_qt_ret ?_
                            exact g_post (rs := [.tmp 6]) rfl (.tmp rfl .nil) ⟨_, rfl, by first | ((have h5 : op ≤ 5 := by omega); (have hab5 := hab h5); rcases hab5 with ⟨ha, hb⟩; rcases (show op = 3 ∨ op = 4 ∨ op = 5 by omega) with rfl | rfl | rfl <;> first | (exfalso; omega) | (rcases ha with rfl | rfl <;> rcases hb with rfl | rfl <;> rfl)) | (have e : op = 6 := by omega); subst e; rfl | (have e : op = 7 := by omega); subst e; rfl | (have e : op = 8 := by omega); subst e; rfl | (have e : op = 9 := by omega); subst e; rfl | (have e : op = 10 := by omega); subst e; rfl | (have e : op = 11 := by omega); subst e; rfl | (have e : op = 12 := by omega); subst e; rfl | (have e : op = 13 := by omega); subst e; rfl | (have e : op = 14 := by omega); subst e; rfl | (have e : op = 15 := by omega); subst e; rfl | (have e : op = 16 := by omega); subst e; rfl, rfl⟩ .nil
                          · refine g_skip ?_
                            refine g_qb ?_
                            refine g_qt ?_
                            refine g_seq ?_
                            refine g_region ?_
                            refine g_pure (p_move rfl) rfl ?_
                            refine g_pure (p_move rfl) rfl ?_
                            refine g_pure (p_geq rfl rfl) rfl ?_
                            refine g_call (Hin := []) (Hr := ?hr13) (R := ?rr13) rfl rfl rfl ?hin13 ?hc13 ?hk13
                            case hin13 => repeat' (first | exact Cover.nil | exact Take.here | apply Cover.cons | apply Take.there)
                            case hc13 => intro ρ' hρ hR; exact one_ok _
                            rintro _ _ ⟨rfl, rfl⟩
                            refine g_pure (p_assign rfl) rfl ?_
                            refine g_nil ?_
                            refine g_qt ?_
                            refine g_ret ?_
                            exact g_post (rs := [.tmp 6]) rfl (.tmp rfl .nil) ⟨_, rfl, by first | ((have h5 : op ≤ 5 := by omega); (have hab5 := hab h5); rcases hab5 with ⟨ha, hb⟩; rcases (show op = 3 ∨ op = 4 ∨ op = 5 by omega) with rfl | rfl | rfl <;> first | (exfalso; omega) | (rcases ha with rfl | rfl <;> rcases hb with rfl | rfl <;> rfl)) | (have e : op = 6 := by omega); subst e; rfl | (have e : op = 7 := by omega); subst e; rfl | (have e : op = 8 := by omega); subst e; rfl | (have e : op = 9 := by omega); subst e; rfl | (have e : op = 10 := by omega); subst e; rfl | (have e : op = 11 := by omega); subst e; rfl | (have e : op = 12 := by omega); subst e; rfl | (have e : op = 13 := by omega); subst e; rfl | (have e : op = 14 := by omega); subst e; rfl | (have e : op = 15 := by omega); subst e; rfl | (have e : op = 16 := by omega); subst e; rfl, rfl⟩ .nil

theorem dapply_ok {ρ : Nat → Obj → Prop} (op : Int) {aa : Option Addr} {ac : Nat} {args : List Int} (ha : RSl ρ 1 aa args.length (args.map encI)) (hlen : args.length ≤ 9223372036854775806) :
    Con Try.prog ρ 67 #[.int .i64 op, .slice aa args.length ac] [] (fun v H => v = .tuple #[.int .i64 (applyF op args).1, .int .i64 (applyF op args).2] ∧ H = []) := by
  obtain ⟨_, bl, ol, kl, Tl, fl, hl⟩ := ha
  obtain ⟨⟨k, n⟩, hg'⟩ : ∃ x, x = groupF op := ⟨_, rfl⟩
  have hg : groupF op = (k, n) := hg'.symm
  have hgk := groupF_k hg
  refine con_intro Try.func67 Try.call67 rfl Try.ntmps67 rfl (L := [(0, _), (1, _)]) rfl fun w hh => ?_
  refine g_seq ?_
  refine g_region ?_
  refine g_pure (p_assign rfl) rfl ?_
  refine g_pure (p_assign rfl) rfl ?_
  refine g_nil ?_
  refine g_qt ?_
  refine g_seq ?_
  refine g_seq ?_
  refine g_region ?_
  refine g_pure (p_move rfl) rfl ?_
  refine g_call (Hin := []) (Hr := ?hr14) (R := ?rr14) rfl rfl rfl ?hin14 ?hc14 ?hk14
  case hin14 => repeat' (first | exact Cover.nil | exact Take.here | apply Cover.cons | apply Take.there)
  case hc14 => intro ρ' hρ hR; exact operands_ok hg
  rintro _ _ ⟨rfl, rfl⟩
  refine g_pure (p_eql rfl rfl) rfl ?_
  refine g_nil ?_
  refine g_qt ?_
  refine g_ifd rfl (fun hk => ?_) (fun hk => ?_)
  · refine g_seq ?_
    refine g_region ?_
    refine g_pure (p_assign rfl) rfl ?_
    refine g_pure (p_assign rfl) rfl ?_
    refine g_nil ?_
    refine g_qt ?_
    refine g_ret ?_
    refine g_qt_ret ?_
    exact g_post (rs := [.tmp 4, .tmp 5]) rfl (.tmp rfl (.tmp rfl .nil)) ⟨by rw [applyF_arg hg (by omega)]; rfl, rfl⟩ .nil
  · have hk0 : k ≠ 0 := by omega
    refine g_skip ?_
    refine g_qt ?_
    refine g_seq ?_
    refine g_seq ?_
    refine g_region ?_
    refine g_pure (p_move rfl) rfl ?_
    refine g_pure (p_len (by rfl) rfl) rfl ?_
    refine g_pure (p_move rfl) rfl ?_
    refine g_call (Hin := []) (Hr := ?hr15) (R := ?rr15) rfl rfl rfl ?hin15 ?hc15 ?hk15
    case hin15 => repeat' (first | exact Cover.nil | exact Take.here | apply Cover.cons | apply Take.there)
    case hc15 => intro ρ' hρ hR; exact operands_ok hg
    rintro _ _ ⟨rfl, rfl⟩
    refine g_pure (p_neq rfl rfl) rfl ?_
    refine g_nil ?_
    refine g_qt ?_
    refine g_ifnd rfl (fun hn => ?_) (fun hn => ?_)
    · refine g_seq ?_
      refine g_region ?_
      refine g_pure (p_assign rfl) rfl ?_
      refine g_pure (p_assign rfl) rfl ?_
      refine g_nil ?_
      refine g_qt ?_
      refine g_ret ?_
      refine g_qt_ret ?_
      exact g_post (rs := [.tmp 4, .tmp 5]) rfl (.tmp rfl (.tmp rfl .nil)) ⟨by rw [applyF_arity hg hk0 (by omega)]; rfl, rfl⟩ .nil
    · have hln : args.length = n := by omega
      refine g_skip ?_
      refine g_qt ?_
      refine g_seq ?_
      refine g_seq ?_
      refine g_region ?_
      refine g_pure (p_assign rfl) rfl ?_
      refine g_nil ?_
      refine g_qt ?_
      refine g_block ?_
      refine g_loop (fun j : Nat => [(0, .int .i64 op), (1, .slice aa args.length ac), (6, .int .i64 j)])
        (fun _ => []) (fun j => j ≤ args.length ∧ (args.take j).all (argB k) = true) (fun j => args.length - j) 0 ⟨Nat.zero_le _, rfl⟩ (by (repeat (first | exact trivial | refine ⟨by rfl, ?_⟩)); done) (by repeat' (first | exact Cover.nil | exact Take.here | apply Cover.cons | apply Take.there)) ?_
      rintro j ⟨hj, hall⟩
      refine g_seq ?_
      refine g_seq ?_
      refine g_region ?_
      refine g_pure (p_move rfl) rfl ?_
      refine g_pure (p_move rfl) rfl ?_
      refine g_pure (p_len (by rfl) rfl) rfl ?_
      refine g_pure (p_lss rfl rfl) rfl ?_
      refine g_nil ?_
      refine g_qt ?_
      refine g_ifd rfl (fun q => ?_) (fun q => ?_)
      · have hjl : j < args.length := by omega
        obtain ⟨l1, l2, l3⟩ := hl (by omega)
        have x1 : kl[ol + (j : Int).toNat * 1]? = some (encI args[j]) := flat2 l3 (i := j) (mapI _ hjl) (by simp)
        have hno : argB k args[j] = false → applyF op args = (0, 14) := fun h => applyF_range hg hk0 hln (all_no hjl h)
        have hgo := take_all (argB k) args j hjl hall
        generalize hlk : args[j] = l at *
        refine g_skip ?_
        refine g_qt ?_
        refine g_seq ?_
        refine g_block ?_
        refine g_seq ?_
        refine g_seq ?_
        refine g_region ?_
        refine g_pure (p_move rfl) rfl ?_
        refine g_call (Hin := []) (Hr := ?hr16) (R := ?rr16) rfl rfl rfl ?hin16 ?hc16 ?hk16
        case hin16 => repeat' (first | exact Cover.nil | exact Take.here | apply Cover.cons | apply Take.there)
        case hc16 => intro ρ' hρ hR; exact boolean_ok hg
        rintro _ _ ⟨rfl, rfl⟩
        refine g_pure (p_move rfl) rfl ?_
        refine g_splitd rfl rfl (fun h1 => ?_) (fun h1 => ?_)
        · refine g_yes rfl rfl ?_
          refine g_pure (p_move rfl) rfl ?_
          refine g_yes rfl rfl ?_
          refine g_pure (p_move rfl) rfl ?_
          refine g_yes rfl rfl ?_
          refine g_pure (p_indexAddr rfl rfl (by omega) (fun _ => l1)) rfl ?_
          refine g_yes rfl rfl ?_
          refine g_pure (p_load (by rfl) rfl (Has.ro l2) x1) rfl ?_
          refine g_yes rfl rfl ?_
          refine g_pure (p_neq rfl rfl) rfl ?_
          first | refine g_pure (p_pickt rfl rfl) rfl ?_ | refine g_pure (p_pickf rfl rfl) rfl ?_
          refine g_pure (p_move rfl) rfl ?_
          refine g_splitnd rfl rfl (fun h2 => ?_) (fun h2 => ?_)
          · refine g_yes rfl rfl ?_
            refine g_pure (p_move rfl) rfl ?_
            refine g_yes rfl rfl ?_
            refine g_pure (p_move rfl) rfl ?_
            refine g_yes rfl rfl ?_
            refine g_pure (p_indexAddr rfl rfl (by omega) (fun _ => l1)) rfl ?_
            refine g_yes rfl rfl ?_
            refine g_pure (p_load (by rfl) rfl (Has.ro l2) x1) rfl ?_
            refine g_yes rfl rfl ?_
            refine g_pure (p_neq rfl rfl) rfl ?_
            first | refine g_pure (p_pickt rfl rfl) rfl ?_ | refine g_pure (p_pickf rfl rfl) rfl ?_
            refine g_nil ?_
            refine g_qt ?_
            refine g_ifndL rfl (fun h3 => ?_) (fun h3 => ?_)
            · refine g_seq ?_
              refine g_region ?_
              refine g_pure (p_assign rfl) rfl ?_
              refine g_pure (p_assign rfl) rfl ?_
              refine g_nil ?_
              refine g_qt ?_
              refine g_ret ?_
              refine g_qt_ret ?_
              refine g_qb_ret ?_
              refine g_qt_ret ?_
              refine g_qn_ret ?_
              refine g_qb_ret ?_
              refine g_qt_ret ?_
              exact g_post (rs := [.tmp 4, .tmp 5]) rfl (.tmp rfl (.tmp rfl .nil)) ⟨by rw [hno (by unfold argB; (repeat' split) <;> simp <;> omega)]; rfl, rfl⟩ .nil
            · refine g_skip ?_
              refine g_qt ?_
              refine g_seq ?_
              refine g_region ?_
              refine g_pure (p_move rfl) rfl ?_
              refine g_call (Hin := []) (Hr := ?hr17) (R := ?rr17) rfl rfl rfl ?hin17 ?hc17 ?hk17
              case hin17 => repeat' (first | exact Cover.nil | exact Take.here | apply Cover.cons | apply Take.there)
              case hc17 => intro ρ' hρ hR; exact boolean_ok hg
              rintro _ _ ⟨rfl, rfl⟩
              refine g_pure (p_not rfl) rfl ?_
              refine g_pure (p_move rfl) rfl ?_
              refine g_splitnd rfl rfl (fun h4 => ?_) (fun h4 => ?_)
              · refine g_yes rfl rfl ?_
                refine g_pure (p_move rfl) rfl ?_
                refine g_yes rfl rfl ?_
                refine g_call (Hin := []) (Hr := ?hr18) (R := ?rr18) rfl rfl rfl ?hin18 ?hc18 ?hk18
                case hin18 => repeat' (first | exact Cover.nil | exact Take.here | apply Cover.cons | apply Take.there)
                case hc18 => intro ρ' hρ hR; exact equality_ok hg
                rintro _ _ ⟨rfl, rfl⟩
                refine g_yes rfl rfl ?_
                refine g_pure (p_not rfl) rfl ?_
                first | refine g_pure (p_pickt rfl rfl) rfl ?_ | refine g_pure (p_pickf rfl rfl) rfl ?_
                refine g_pure (p_move rfl) rfl ?_
                refine g_splitnd rfl rfl (fun h5 => ?_) (fun h5 => ?_)
                · refine g_yes rfl rfl ?_
                  refine g_pure (p_move rfl) rfl ?_
                  refine g_yes rfl rfl ?_
                  refine g_pure (p_move rfl) rfl ?_
                  refine g_yes rfl rfl ?_
                  refine g_pure (p_indexAddr rfl rfl (by omega) (fun _ => l1)) rfl ?_
                  refine g_yes rfl rfl ?_
                  refine g_pure (p_load (by rfl) rfl (Has.ro l2) x1) rfl ?_
                  refine g_yes rfl rfl ?_
                  refine g_pure (p_lss rfl rfl) rfl ?_
                  refine g_yes rfl rfl ?_
                  refine g_pure (p_move rfl) rfl ?_
                  refine g_splitd rfl rfl (fun h6 => ?_) (fun h6 => ?_)
                  · refine g_no rfl rfl rfl rfl ?_
                    refine g_no rfl rfl rfl rfl ?_
                    refine g_no rfl rfl rfl rfl ?_
                    refine g_no rfl rfl rfl rfl ?_
                    refine g_no rfl rfl rfl rfl ?_
                    refine g_yes rfl rfl ?_
                    first | refine g_pure (p_pickt rfl rfl) rfl ?_ | refine g_pure (p_pickf rfl rfl) rfl ?_
                    first | refine g_pure (p_pickt rfl rfl) rfl ?_ | refine g_pure (p_pickf rfl rfl) rfl ?_
                    refine g_nil ?_
                    refine g_qt ?_
                    refine g_ift rfl ?_
                    refine g_seq ?_
                    refine g_region ?_
                    refine g_pure (p_assign rfl) rfl ?_
                    refine g_pure (p_assign rfl) rfl ?_
                    refine g_nil ?_
                    refine g_qt ?_
                    refine g_ret ?_
                    refine g_qb_ret ?_
                    refine g_qt_ret ?_
                    refine g_qn_ret ?_
                    refine g_qb_ret ?_
                    refine g_qt_ret ?_
                    exact g_post (rs := [.tmp 4, .tmp 5]) rfl (.tmp rfl (.tmp rfl .nil)) ⟨by rw [hno (by unfold argB; (repeat' split) <;> simp <;> omega)]; rfl, rfl⟩ .nil
                  · refine g_yes rfl rfl ?_
                    refine g_pure (p_move rfl) rfl ?_
                    refine g_yes rfl rfl ?_
                    refine g_pure (p_move rfl) rfl ?_
                    refine g_yes rfl rfl ?_
                    refine g_pure (p_indexAddr rfl rfl (by omega) (fun _ => l1)) rfl ?_
                    refine g_yes rfl rfl ?_
                    refine g_pure (p_load (by rfl) rfl (Has.ro l2) x1) rfl ?_
                    refine g_yes rfl rfl ?_
                    refine g_pure (p_gtr rfl rfl) rfl ?_
                    refine g_yes rfl rfl ?_
                    first | refine g_pure (p_pickt rfl rfl) rfl ?_ | refine g_pure (p_pickf rfl rfl) rfl ?_
                    first | refine g_pure (p_pickt rfl rfl) rfl ?_ | refine g_pure (p_pickf rfl rfl) rfl ?_
                    refine g_nil ?_
                    refine g_qt ?_
                    refine g_ifdL rfl (fun h8 => ?_) (fun h8 => ?_)
                    · refine g_seq ?_
                      refine g_region ?_
                      refine g_pure (p_assign rfl) rfl ?_
                      refine g_pure (p_assign rfl) rfl ?_
                      refine g_nil ?_
                      refine g_qt ?_
                      refine g_ret ?_
                      refine g_qb_ret ?_
                      refine g_qt_ret ?_
                      refine g_qn_ret ?_
                      refine g_qb_ret ?_
                      refine g_qt_ret ?_
                      exact g_post (rs := [.tmp 4, .tmp 5]) rfl (.tmp rfl (.tmp rfl .nil)) ⟨by rw [hno (by unfold argB; (repeat' split) <;> simp <;> omega)]; rfl, rfl⟩ .nil
                    · refine g_skip ?_
                      refine g_qb ?_
                      refine g_qt ?_
                      refine g_region ?_
                      refine g_pure (p_move rfl) rfl ?_
                      first | refine g_pure (p_addi rfl rfl (by omega)) rfl ?_ | refine g_pure (p_add rfl rfl) rfl ?_
                      refine g_pure (p_assign rfl) rfl ?_
                      refine g_nil ?_
                      refine g_qn ?_
                      exact g_next (j + 1) (by (repeat (first | exact trivial | refine ⟨by rfl, ?_⟩)); done) (by repeat' (first | exact Cover.nil | exact Take.here | apply Cover.cons | apply Take.there)) ⟨by omega, hgo (by unfold argB; (repeat' split) <;> simp <;> omega)⟩ (by omega)
                · refine g_no rfl rfl rfl rfl ?_
                  refine g_no rfl rfl rfl rfl ?_
                  refine g_no rfl rfl rfl rfl ?_
                  refine g_no rfl rfl rfl rfl ?_
                  refine g_no rfl rfl rfl rfl ?_
                  refine g_no rfl rfl rfl rfl ?_
                  refine g_nou rfl rfl rfl ?_
                  refine g_nou rfl rfl rfl ?_
                  refine g_nou rfl rfl rfl ?_
                  refine g_nou rfl rfl rfl ?_
                  refine g_nou rfl rfl rfl ?_
                  refine g_no rfl rfl rfl rfl ?_
                  first | refine g_pure (p_pickt rfl rfl) rfl ?_ | refine g_pure (p_pickf rfl rfl) rfl ?_
                  refine g_nil ?_
                  refine g_qt ?_
                  refine g_iff rfl ?_
                  refine g_skip ?_
                  refine g_qb ?_
                  refine g_qt ?_
                  refine g_region ?_
                  refine g_pure (p_move rfl) rfl ?_
                  first | refine g_pure (p_addi rfl rfl (by omega)) rfl ?_ | refine g_pure (p_add rfl rfl) rfl ?_
                  refine g_pure (p_assign rfl) rfl ?_
                  refine g_nil ?_
                  refine g_qn ?_
                  exact g_next (j + 1) (by (repeat (first | exact trivial | refine ⟨by rfl, ?_⟩)); done) (by repeat' (first | exact Cover.nil | exact Take.here | apply Cover.cons | apply Take.there)) ⟨by omega, hgo (by unfold argB; (repeat' split) <;> simp <;> omega)⟩ (by omega)
              · refine g_no rfl rfl rfl rfl ?_
                refine g_no rfl rfl rfl rfl ?_
                refine g_no rfl rfl rfl rfl ?_
                first | refine g_pure (p_pickt rfl rfl) rfl ?_ | refine g_pure (p_pickf rfl rfl) rfl ?_
                refine g_pure (p_move rfl) rfl ?_
                refine g_no rfl rfl rfl rfl ?_
                refine g_no rfl rfl rfl rfl ?_
                refine g_no rfl rfl rfl rfl ?_
                refine g_no rfl rfl rfl rfl ?_
                refine g_no rfl rfl rfl rfl ?_
                refine g_no rfl rfl rfl rfl ?_
                refine g_nou rfl rfl rfl ?_
                refine g_nou rfl rfl rfl ?_
                refine g_nou rfl rfl rfl ?_
                refine g_nou rfl rfl rfl ?_
                refine g_nou rfl rfl rfl ?_
                refine g_no rfl rfl rfl rfl ?_
                first | refine g_pure (p_pickt rfl rfl) rfl ?_ | refine g_pure (p_pickf rfl rfl) rfl ?_
                refine g_nil ?_
                refine g_qt ?_
                refine g_iff rfl ?_
                refine g_skip ?_
                refine g_qb ?_
                refine g_qt ?_
                refine g_region ?_
                refine g_pure (p_move rfl) rfl ?_
                first | refine g_pure (p_addi rfl rfl (by omega)) rfl ?_ | refine g_pure (p_add rfl rfl) rfl ?_
                refine g_pure (p_assign rfl) rfl ?_
                refine g_nil ?_
                refine g_qn ?_
                exact g_next (j + 1) (by (repeat (first | exact trivial | refine ⟨by rfl, ?_⟩)); done) (by repeat' (first | exact Cover.nil | exact Take.here | apply Cover.cons | apply Take.there)) ⟨by omega, hgo (by unfold argB; (repeat' split) <;> simp <;> omega)⟩ (by omega)
          · refine g_no rfl rfl rfl rfl ?_
            refine g_no rfl rfl rfl rfl ?_
            refine g_no rfl rfl rfl rfl ?_
            refine g_no rfl rfl rfl rfl ?_
            refine g_no rfl rfl rfl rfl ?_
            first | refine g_pure (p_pickt rfl rfl) rfl ?_ | refine g_pure (p_pickf rfl rfl) rfl ?_
            refine g_nil ?_
            refine g_qt ?_
            refine g_iff rfl ?_
            refine g_skip ?_
            refine g_qt ?_
            refine g_seq ?_
            refine g_region ?_
            refine g_pure (p_move rfl) rfl ?_
            refine g_call (Hin := []) (Hr := ?hr19) (R := ?rr19) rfl rfl rfl ?hin19 ?hc19 ?hk19
            case hin19 => repeat' (first | exact Cover.nil | exact Take.here | apply Cover.cons | apply Take.there)
            case hc19 => intro ρ' hρ hR; exact boolean_ok hg
            rintro _ _ ⟨rfl, rfl⟩
            refine g_pure (p_not rfl) rfl ?_
            refine g_pure (p_move rfl) rfl ?_
            refine g_splitnd rfl rfl (fun h15 => ?_) (fun h15 => ?_)
            · refine g_yes rfl rfl ?_
              refine g_pure (p_move rfl) rfl ?_
              refine g_yes rfl rfl ?_
              refine g_call (Hin := []) (Hr := ?hr20) (R := ?rr20) rfl rfl rfl ?hin20 ?hc20 ?hk20
              case hin20 => repeat' (first | exact Cover.nil | exact Take.here | apply Cover.cons | apply Take.there)
              case hc20 => intro ρ' hρ hR; exact equality_ok hg
              rintro _ _ ⟨rfl, rfl⟩
              refine g_yes rfl rfl ?_
              refine g_pure (p_not rfl) rfl ?_
              first | refine g_pure (p_pickt rfl rfl) rfl ?_ | refine g_pure (p_pickf rfl rfl) rfl ?_
              refine g_pure (p_move rfl) rfl ?_
              refine g_splitnd rfl rfl (fun h16 => ?_) (fun h16 => ?_)
              · refine g_yes rfl rfl ?_
                refine g_pure (p_move rfl) rfl ?_
                refine g_yes rfl rfl ?_
                refine g_pure (p_move rfl) rfl ?_
                refine g_yes rfl rfl ?_
                refine g_pure (p_indexAddr rfl rfl (by omega) (fun _ => l1)) rfl ?_
                refine g_yes rfl rfl ?_
                refine g_pure (p_load (by rfl) rfl (Has.ro l2) x1) rfl ?_
                refine g_yes rfl rfl ?_
                refine g_pure (p_lss rfl rfl) rfl ?_
                refine g_yes rfl rfl ?_
                refine g_pure (p_move rfl) rfl ?_
                refine g_splitd rfl rfl (fun h17 => ?_) (fun h17 => ?_)
                · refine g_no rfl rfl rfl rfl ?_
                  refine g_no rfl rfl rfl rfl ?_
                  refine g_no rfl rfl rfl rfl ?_
                  refine g_no rfl rfl rfl rfl ?_
                  refine g_no rfl rfl rfl rfl ?_
                  refine g_yes rfl rfl ?_
                  first | refine g_pure (p_pickt rfl rfl) rfl ?_ | refine g_pure (p_pickf rfl rfl) rfl ?_
                  first | refine g_pure (p_pickt rfl rfl) rfl ?_ | refine g_pure (p_pickf rfl rfl) rfl ?_
                  refine g_nil ?_
                  refine g_qt ?_
                  refine g_ift rfl ?_
                  refine g_seq ?_
                  refine g_region ?_
                  refine g_pure (p_assign rfl) rfl ?_
                  refine g_pure (p_assign rfl) rfl ?_
                  refine g_nil ?_
                  refine g_qt ?_
                  refine g_ret ?_
                  refine g_qb_ret ?_
                  refine g_qt_ret ?_
                  refine g_qn_ret ?_
                  refine g_qb_ret ?_
                  refine g_qt_ret ?_
                  exact g_post (rs := [.tmp 4, .tmp 5]) rfl (.tmp rfl (.tmp rfl .nil)) ⟨by rw [hno (by unfold argB; (repeat' split) <;> simp <;> omega)]; rfl, rfl⟩ .nil
                · refine g_yes rfl rfl ?_
                  refine g_pure (p_move rfl) rfl ?_
                  refine g_yes rfl rfl ?_
                  refine g_pure (p_move rfl) rfl ?_
                  refine g_yes rfl rfl ?_
                  refine g_pure (p_indexAddr rfl rfl (by omega) (fun _ => l1)) rfl ?_
                  refine g_yes rfl rfl ?_
                  refine g_pure (p_load (by rfl) rfl (Has.ro l2) x1) rfl ?_
                  refine g_yes rfl rfl ?_
                  refine g_pure (p_gtr rfl rfl) rfl ?_
                  refine g_yes rfl rfl ?_
                  first | refine g_pure (p_pickt rfl rfl) rfl ?_ | refine g_pure (p_pickf rfl rfl) rfl ?_
                  first | refine g_pure (p_pickt rfl rfl) rfl ?_ | refine g_pure (p_pickf rfl rfl) rfl ?_
                  refine g_nil ?_
                  refine g_qt ?_
                  refine g_ifdL rfl (fun h19 => ?_) (fun h19 => ?_)
                  · refine g_seq ?_
                    refine g_region ?_
                    refine g_pure (p_assign rfl) rfl ?_
                    refine g_pure (p_assign rfl) rfl ?_
                    refine g_nil ?_
                    refine g_qt ?_
                    refine g_ret ?_
                    refine g_qb_ret ?_
                    refine g_qt_ret ?_
                    refine g_qn_ret ?_
                    refine g_qb_ret ?_
                    refine g_qt_ret ?_
                    exact g_post (rs := [.tmp 4, .tmp 5]) rfl (.tmp rfl (.tmp rfl .nil)) ⟨by rw [hno (by unfold argB; (repeat' split) <;> simp <;> omega)]; rfl, rfl⟩ .nil
                  · refine g_skip ?_
                    refine g_qb ?_
                    refine g_qt ?_
                    refine g_region ?_
                    refine g_pure (p_move rfl) rfl ?_
                    first | refine g_pure (p_addi rfl rfl (by omega)) rfl ?_ | refine g_pure (p_add rfl rfl) rfl ?_
                    refine g_pure (p_assign rfl) rfl ?_
                    refine g_nil ?_
                    refine g_qn ?_
                    exact g_next (j + 1) (by (repeat (first | exact trivial | refine ⟨by rfl, ?_⟩)); done) (by repeat' (first | exact Cover.nil | exact Take.here | apply Cover.cons | apply Take.there)) ⟨by omega, hgo (by unfold argB; (repeat' split) <;> simp <;> omega)⟩ (by omega)
              · refine g_no rfl rfl rfl rfl ?_
                refine g_no rfl rfl rfl rfl ?_
                refine g_no rfl rfl rfl rfl ?_
                refine g_no rfl rfl rfl rfl ?_
                refine g_no rfl rfl rfl rfl ?_
                refine g_no rfl rfl rfl rfl ?_
                refine g_nou rfl rfl rfl ?_
                refine g_nou rfl rfl rfl ?_
                refine g_nou rfl rfl rfl ?_
                refine g_nou rfl rfl rfl ?_
                refine g_nou rfl rfl rfl ?_
                refine g_no rfl rfl rfl rfl ?_
                first | refine g_pure (p_pickt rfl rfl) rfl ?_ | refine g_pure (p_pickf rfl rfl) rfl ?_
                refine g_nil ?_
                refine g_qt ?_
                refine g_iff rfl ?_
                refine g_skip ?_
                refine g_qb ?_
                refine g_qt ?_
                refine g_region ?_
                refine g_pure (p_move rfl) rfl ?_
                first | refine g_pure (p_addi rfl rfl (by omega)) rfl ?_ | refine g_pure (p_add rfl rfl) rfl ?_
                refine g_pure (p_assign rfl) rfl ?_
                refine g_nil ?_
                refine g_qn ?_
                exact g_next (j + 1) (by (repeat (first | exact trivial | refine ⟨by rfl, ?_⟩)); done) (by repeat' (first | exact Cover.nil | exact Take.here | apply Cover.cons | apply Take.there)) ⟨by omega, hgo (by unfold argB; (repeat' split) <;> simp <;> omega)⟩ (by omega)
            · refine g_no rfl rfl rfl rfl ?_
              refine g_no rfl rfl rfl rfl ?_
              refine g_no rfl rfl rfl rfl ?_
              first | refine g_pure (p_pickt rfl rfl) rfl ?_ | refine g_pure (p_pickf rfl rfl) rfl ?_
              refine g_pure (p_move rfl) rfl ?_
              refine g_no rfl rfl rfl rfl ?_
              refine g_no rfl rfl rfl rfl ?_
              refine g_no rfl rfl rfl rfl ?_
              refine g_no rfl rfl rfl rfl ?_
              refine g_no rfl rfl rfl rfl ?_
              refine g_no rfl rfl rfl rfl ?_
              refine g_nou rfl rfl rfl ?_
              refine g_nou rfl rfl rfl ?_
              refine g_nou rfl rfl rfl ?_
              refine g_nou rfl rfl rfl ?_
              refine g_nou rfl rfl rfl ?_
              refine g_no rfl rfl rfl rfl ?_
              first | refine g_pure (p_pickt rfl rfl) rfl ?_ | refine g_pure (p_pickf rfl rfl) rfl ?_
              refine g_nil ?_
              refine g_qt ?_
              refine g_iff rfl ?_
              refine g_skip ?_
              refine g_qb ?_
              refine g_qt ?_
              refine g_region ?_
              refine g_pure (p_move rfl) rfl ?_
              first | refine g_pure (p_addi rfl rfl (by omega)) rfl ?_ | refine g_pure (p_add rfl rfl) rfl ?_
              refine g_pure (p_assign rfl) rfl ?_
              refine g_nil ?_
              refine g_qn ?_
              exact g_next (j + 1) (by (repeat (first | exact trivial | refine ⟨by rfl, ?_⟩)); done) (by repeat' (first | exact Cover.nil | exact Take.here | apply Cover.cons | apply Take.there)) ⟨by omega, hgo (by unfold argB; (repeat' split) <;> simp <;> omega)⟩ (by omega)
        · refine g_no rfl rfl rfl rfl ?_
          refine g_no rfl rfl rfl rfl ?_
          refine g_no rfl rfl rfl rfl ?_
          refine g_no rfl rfl rfl rfl ?_
          refine g_no rfl rfl rfl rfl ?_
          first | refine g_pure (p_pickt rfl rfl) rfl ?_ | refine g_pure (p_pickf rfl rfl) rfl ?_
          refine g_pure (p_move rfl) rfl ?_
          refine g_no rfl rfl rfl rfl ?_
          refine g_no rfl rfl rfl rfl ?_
          refine g_no rfl rfl rfl rfl ?_
          refine g_no rfl rfl rfl rfl ?_
          refine g_no rfl rfl rfl rfl ?_
          first | refine g_pure (p_pickt rfl rfl) rfl ?_ | refine g_pure (p_pickf rfl rfl) rfl ?_
          refine g_nil ?_
          refine g_qt ?_
          refine g_iff rfl ?_
          refine g_skip ?_
          refine g_qt ?_
          refine g_seq ?_
          refine g_region ?_
          refine g_pure (p_move rfl) rfl ?_
          refine g_call (Hin := []) (Hr := ?hr21) (R := ?rr21) rfl rfl rfl ?hin21 ?hc21 ?hk21
          case hin21 => repeat' (first | exact Cover.nil | exact Take.here | apply Cover.cons | apply Take.there)
          case hc21 => intro ρ' hρ hR; exact boolean_ok hg
          rintro _ _ ⟨rfl, rfl⟩
          refine g_pure (p_not rfl) rfl ?_
          refine g_pure (p_move rfl) rfl ?_
          refine g_splitnd rfl rfl (fun h27 => ?_) (fun h27 => ?_)
          · refine g_yes rfl rfl ?_
            refine g_pure (p_move rfl) rfl ?_
            refine g_yes rfl rfl ?_
            refine g_call (Hin := []) (Hr := ?hr22) (R := ?rr22) rfl rfl rfl ?hin22 ?hc22 ?hk22
            case hin22 => repeat' (first | exact Cover.nil | exact Take.here | apply Cover.cons | apply Take.there)
            case hc22 => intro ρ' hρ hR; exact equality_ok hg
            rintro _ _ ⟨rfl, rfl⟩
            refine g_yes rfl rfl ?_
            refine g_pure (p_not rfl) rfl ?_
            first | refine g_pure (p_pickt rfl rfl) rfl ?_ | refine g_pure (p_pickf rfl rfl) rfl ?_
            refine g_pure (p_move rfl) rfl ?_
            refine g_splitnd rfl rfl (fun h28 => ?_) (fun h28 => ?_)
            · refine g_yes rfl rfl ?_
              refine g_pure (p_move rfl) rfl ?_
              refine g_yes rfl rfl ?_
              refine g_pure (p_move rfl) rfl ?_
              refine g_yes rfl rfl ?_
              refine g_pure (p_indexAddr rfl rfl (by omega) (fun _ => l1)) rfl ?_
              refine g_yes rfl rfl ?_
              refine g_pure (p_load (by rfl) rfl (Has.ro l2) x1) rfl ?_
              refine g_yes rfl rfl ?_
              refine g_pure (p_lss rfl rfl) rfl ?_
              refine g_yes rfl rfl ?_
              refine g_pure (p_move rfl) rfl ?_
              refine g_splitd rfl rfl (fun h29 => ?_) (fun h29 => ?_)
              · refine g_no rfl rfl rfl rfl ?_
                refine g_no rfl rfl rfl rfl ?_
                refine g_no rfl rfl rfl rfl ?_
                refine g_no rfl rfl rfl rfl ?_
                refine g_no rfl rfl rfl rfl ?_
                refine g_yes rfl rfl ?_
                first | refine g_pure (p_pickt rfl rfl) rfl ?_ | refine g_pure (p_pickf rfl rfl) rfl ?_
                first | refine g_pure (p_pickt rfl rfl) rfl ?_ | refine g_pure (p_pickf rfl rfl) rfl ?_
                refine g_nil ?_
                refine g_qt ?_
                refine g_ift rfl ?_
                refine g_seq ?_
                refine g_region ?_
                refine g_pure (p_assign rfl) rfl ?_
                refine g_pure (p_assign rfl) rfl ?_
                refine g_nil ?_
                refine g_qt ?_
                refine g_ret ?_
                refine g_qb_ret ?_
                refine g_qt_ret ?_
                refine g_qn_ret ?_
                refine g_qb_ret ?_
                refine g_qt_ret ?_
                exact g_post (rs := [.tmp 4, .tmp 5]) rfl (.tmp rfl (.tmp rfl .nil)) ⟨by rw [hno (by unfold argB; (repeat' split) <;> simp <;> omega)]; rfl, rfl⟩ .nil
              · refine g_yes rfl rfl ?_
                refine g_pure (p_move rfl) rfl ?_
                refine g_yes rfl rfl ?_
                refine g_pure (p_move rfl) rfl ?_
                refine g_yes rfl rfl ?_
                refine g_pure (p_indexAddr rfl rfl (by omega) (fun _ => l1)) rfl ?_
                refine g_yes rfl rfl ?_
                refine g_pure (p_load (by rfl) rfl (Has.ro l2) x1) rfl ?_
                refine g_yes rfl rfl ?_
                refine g_pure (p_gtr rfl rfl) rfl ?_
                refine g_yes rfl rfl ?_
                first | refine g_pure (p_pickt rfl rfl) rfl ?_ | refine g_pure (p_pickf rfl rfl) rfl ?_
                first | refine g_pure (p_pickt rfl rfl) rfl ?_ | refine g_pure (p_pickf rfl rfl) rfl ?_
                refine g_nil ?_
                refine g_qt ?_
                refine g_ifdL rfl (fun h31 => ?_) (fun h31 => ?_)
                · refine g_seq ?_
                  refine g_region ?_
                  refine g_pure (p_assign rfl) rfl ?_
                  refine g_pure (p_assign rfl) rfl ?_
                  refine g_nil ?_
                  refine g_qt ?_
                  refine g_ret ?_
                  refine g_qb_ret ?_
                  refine g_qt_ret ?_
                  refine g_qn_ret ?_
                  refine g_qb_ret ?_
                  refine g_qt_ret ?_
                  exact g_post (rs := [.tmp 4, .tmp 5]) rfl (.tmp rfl (.tmp rfl .nil)) ⟨by rw [hno (by unfold argB; (repeat' split) <;> simp <;> omega)]; rfl, rfl⟩ .nil
                · refine g_skip ?_
                  refine g_qb ?_
                  refine g_qt ?_
                  refine g_region ?_
                  refine g_pure (p_move rfl) rfl ?_
                  first | refine g_pure (p_addi rfl rfl (by omega)) rfl ?_ | refine g_pure (p_add rfl rfl) rfl ?_
                  refine g_pure (p_assign rfl) rfl ?_
                  refine g_nil ?_
                  refine g_qn ?_
                  exact g_next (j + 1) (by (repeat (first | exact trivial | refine ⟨by rfl, ?_⟩)); done) (by repeat' (first | exact Cover.nil | exact Take.here | apply Cover.cons | apply Take.there)) ⟨by omega, hgo (by unfold argB; (repeat' split) <;> simp <;> omega)⟩ (by omega)
            · refine g_no rfl rfl rfl rfl ?_
              refine g_no rfl rfl rfl rfl ?_
              refine g_no rfl rfl rfl rfl ?_
              refine g_no rfl rfl rfl rfl ?_
              refine g_no rfl rfl rfl rfl ?_
              refine g_no rfl rfl rfl rfl ?_
              refine g_nou rfl rfl rfl ?_
              refine g_nou rfl rfl rfl ?_
              refine g_nou rfl rfl rfl ?_
              refine g_nou rfl rfl rfl ?_
              refine g_nou rfl rfl rfl ?_
              refine g_no rfl rfl rfl rfl ?_
              first | refine g_pure (p_pickt rfl rfl) rfl ?_ | refine g_pure (p_pickf rfl rfl) rfl ?_
              refine g_nil ?_
              refine g_qt ?_
              refine g_iff rfl ?_
              refine g_skip ?_
              refine g_qb ?_
              refine g_qt ?_
              refine g_region ?_
              refine g_pure (p_move rfl) rfl ?_
              first | refine g_pure (p_addi rfl rfl (by omega)) rfl ?_ | refine g_pure (p_add rfl rfl) rfl ?_
              refine g_pure (p_assign rfl) rfl ?_
              refine g_nil ?_
              refine g_qn ?_
              exact g_next (j + 1) (by (repeat (first | exact trivial | refine ⟨by rfl, ?_⟩)); done) (by repeat' (first | exact Cover.nil | exact Take.here | apply Cover.cons | apply Take.there)) ⟨by omega, hgo (by unfold argB; (repeat' split) <;> simp <;> omega)⟩ (by omega)
          · refine g_no rfl rfl rfl rfl ?_
            refine g_no rfl rfl rfl rfl ?_
            refine g_no rfl rfl rfl rfl ?_
            first | refine g_pure (p_pickt rfl rfl) rfl ?_ | refine g_pure (p_pickf rfl rfl) rfl ?_
            refine g_pure (p_move rfl) rfl ?_
            refine g_no rfl rfl rfl rfl ?_
            refine g_no rfl rfl rfl rfl ?_
            refine g_no rfl rfl rfl rfl ?_
            refine g_no rfl rfl rfl rfl ?_
            refine g_no rfl rfl rfl rfl ?_
            refine g_no rfl rfl rfl rfl ?_
            refine g_nou rfl rfl rfl ?_
            refine g_nou rfl rfl rfl ?_
            refine g_nou rfl rfl rfl ?_
            refine g_nou rfl rfl rfl ?_
            refine g_nou rfl rfl rfl ?_
            refine g_no rfl rfl rfl rfl ?_
            first | refine g_pure (p_pickt rfl rfl) rfl ?_ | refine g_pure (p_pickf rfl rfl) rfl ?_
            refine g_nil ?_
            refine g_qt ?_
            refine g_iff rfl ?_
            refine g_skip ?_
            refine g_qb ?_
            refine g_qt ?_
            refine g_region ?_
            refine g_pure (p_move rfl) rfl ?_
            first | refine g_pure (p_addi rfl rfl (by omega)) rfl ?_ | refine g_pure (p_add rfl rfl) rfl ?_
            refine g_pure (p_assign rfl) rfl ?_
            refine g_nil ?_
            refine g_qn ?_
            exact g_next (j + 1) (by (repeat (first | exact trivial | refine ⟨by rfl, ?_⟩)); done) (by repeat' (first | exact Cover.nil | exact Take.here | apply Cover.cons | apply Take.there)) ⟨by omega, hgo (by unfold argB; (repeat' split) <;> simp <;> omega)⟩ (by omega)
      · have hje : j = args.length := by omega
        rw [hje, List.take_length] at hall
        have hap := applyF_ok hg hk0 hln hall
        obtain ⟨l1, l2, l3⟩ := hl (by omega)
        have x0 : kl[ol + (0 : Int).toNat * 1]? = some (encI (args.getD 0 0)) := flat2 l3 (i := 0) (by rw [mapI _ (show 0 < args.length by omega), List.getD_eq_getElem?_getD, List.getElem?_eq_getElem (show 0 < args.length by omega)]; rfl) rfl
        have hb0 : k = 1 → args.getD 0 0 = 0 ∨ args.getD 0 0 = 1 := fun h1 => by
          have := List.all_eq_true.1 hall _ (List.getElem_mem (show 0 < args.length by omega))
          rw [List.getD_eq_getElem?_getD, List.getElem?_eq_getElem (show 0 < args.length by omega)]
          unfold argB at this; rw [if_pos h1] at this; exact of_decide_eq_true this
        have hb1 : k = 1 → n = 2 → args.getD 1 0 = 0 ∨ args.getD 1 0 = 1 := fun h1 h2 => by
          have := List.all_eq_true.1 hall _ (List.getElem_mem (show 1 < args.length by omega))
          rw [List.getD_eq_getElem?_getD, List.getElem?_eq_getElem (show 1 < args.length by omega)]
          unfold argB at this; rw [if_pos h1] at this; exact of_decide_eq_true this
        have x1 : n = 2 → kl[ol + (1 : Int).toNat * 1]? = some (encI (args.getD 1 0)) := fun h2 => flat2 l3 (i := 1) (by rw [mapI _ (show 1 < args.length by omega), List.getD_eq_getElem?_getD, List.getElem?_eq_getElem (show 1 < args.length by omega)]; rfl) rfl
        generalize hu : args.getD 0 0 = u at *
        refine g_exit ?_
        refine g_qt_exit ?_
        refine g_qn_exit ?_
        refine g_qb_exit ?_
        refine g_qt ?_
        refine g_seq ?_
        refine g_seq ?_
        refine g_region ?_
        refine g_pure (p_move rfl) rfl ?_
        refine g_pure (p_eql rfl rfl) rfl ?_
        refine g_nil ?_
        refine g_qt ?_
        refine g_ifd rfl (fun o1 => ?_) (fun o1 => ?_)
        · subst o1
          have : k = 1 ∧ n = 1 := by simpa [groupF] using hg.symm
          obtain ⟨rfl, rfl⟩ := this
          have hb := hb0 rfl
          refine g_seq ?_
          refine g_region ?_
          refine g_pure (p_move rfl) rfl ?_
          refine g_pure (p_indexAddr rfl rfl (by omega) (fun _ => l1)) rfl ?_
          refine g_pure (p_load (by rfl) rfl (Has.ro l2) x0) rfl ?_
          refine g_pure (p_subi rfl rfl (by omega)) rfl ?_
          refine g_pure (p_assign rfl) rfl ?_
          refine g_pure (p_assign rfl) rfl ?_
          refine g_nil ?_
          refine g_qt ?_
          refine g_ret ?_
          refine g_qt_ret ?_
          refine g_post (rs := [.tmp 4, .tmp 5]) rfl (.tmp rfl (.tmp rfl .nil)) ⟨?_, rfl⟩ .nil
          rw [hap, hu]
          rcases hb with rfl | rfl <;> rfl
        · refine g_skip ?_
          refine g_qt ?_
          refine g_seq ?_
          refine g_seq ?_
          refine g_region ?_
          refine g_pure (p_move rfl) rfl ?_
          refine g_pure (p_eql rfl rfl) rfl ?_
          refine g_nil ?_
          refine g_qt ?_
          refine g_ifd rfl (fun o2 => ?_) (fun o2 => ?_)
          · subst o2
            have : k = 2 ∧ n = 1 := by simpa [groupF] using hg.symm
            obtain ⟨rfl, rfl⟩ := this
            refine g_seq ?_
            refine g_region ?_
            refine g_pure (p_move rfl) rfl ?_
            refine g_pure (p_indexAddr rfl rfl (by omega) (fun _ => l1)) rfl ?_
            refine g_pure (p_load (by rfl) rfl (Has.ro l2) x0) rfl ?_
            refine g_call (Hin := []) (Hr := ?hr23) (R := ?rr23) rfl rfl rfl ?hin23 ?hc23 ?hk23
            case hin23 => repeat' (first | exact Cover.nil | exact Take.here | apply Cover.cons | apply Take.there)
            case hc23 => intro ρ' hρ hR; exact dneg_ok _
            rintro _ _ ⟨rfl, rfl⟩
            refine g_pure (p_assign rfl) rfl ?_
            refine g_pure (p_assign rfl) rfl ?_
            refine g_nil ?_
            refine g_qt ?_
            refine g_ret ?_
            refine g_qt_ret ?_
            refine g_post (rs := [.tmp 4, .tmp 5]) rfl (.tmp rfl (.tmp rfl .nil)) ⟨?_, rfl⟩ .nil
            rw [hap, hu]; rfl
          · have hn2 : n = 2 ∧ (3 ≤ op ∧ op ≤ 16) ∧ (op ≤ 5 → k = 1) := by
              have hg2 := hg
              unfold groupF at hg2
              (repeat' split at hg2) <;> cases hg2 <;> omega
            obtain ⟨hn2, hop, hk1⟩ := hn2
            have x1 := x1 hn2
            have hb1 := fun h => hb1 h hn2
            rw [show n - 1 = 1 by omega] at hap
            generalize hu' : args.getD 1 0 = u' at *
            refine g_skip ?_
            refine g_qt ?_
            refine g_seq ?_
            refine m_begin0 (.fl 0 0 (.fl 1 0 (.fl 2 0 (.fl 3 1 (.fl 4 0 (.fl 5 0 (.fl 6 1 (.ef 7 (.fl 8 0 (.fl 9 0 .done)))))))))) (by kernel_rfl) (by kernel_rfl) ?_
            refine m_float0 rfl (fun _ _ => p_move rfl) rfl ?_
            refine m_float0 rfl (fun _ _ => p_move rfl) rfl ?_
            refine m_float0 rfl (fun _ _ => p_indexAddr rfl rfl (by omega) (fun _ => l1)) rfl ?_
            refine m_float rfl (p_load (by rfl) rfl (Has.ro l2) x0) rfl ?_
            refine m_float0 rfl (fun _ _ => p_move rfl) rfl ?_
            refine m_float0 rfl (fun _ _ => p_indexAddr rfl rfl (by omega) (fun _ => l1)) rfl ?_
            refine m_float rfl (p_load (by rfl) rfl (Has.ro l2) x1) rfl ?_
            refine m_call (Hin := []) (Hr := ?hr24) (R := ?rr24) rfl wantedN rfl rfl rfl ?hin24 ?hc24 ?hk24
            case hin24 => repeat' (first | exact Cover.nil | exact Take.here | apply Cover.cons | apply Take.there)
            case hc24 => intro ρ' hρ hR; exact dcompute_ok (a := u) (b := u') hop (fun h => ⟨hb0 (hk1 h), hb1 (hk1 h)⟩)
            rintro _ _ ⟨r, rfl, hr, rfl⟩
            refine ⟨.none (by kernel_rfl), ?_⟩
            refine m_float0 rfl (fun _ _ => p_assign rfl) rfl ?_
            refine m_float0 rfl (fun _ _ => p_assign rfl) rfl ?_
            refine m_nil ?_
            refine g_qt ?_
            refine g_ret ?_
            exact g_post (rs := [.tmp 4, .tmp 5]) rfl (.tmp rfl (.tmp rfl .nil)) ⟨by rw [hap, hr]; rfl, rfl⟩ .nil
end Go.Proofs.Ytkebblmmgcgjkaa
