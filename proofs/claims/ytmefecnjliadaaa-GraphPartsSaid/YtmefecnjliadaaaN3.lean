/- Chapter 4: a heap's way up and down. Conditions: none. -/
import Derived.Test.YtmefecnjliadaaaN2
namespace Go.Z.Gr
set_option maxRecDepth 8000
set_option linter.unusedVariables false
set_option linter.unusedSimpArgs false
set_option linter.unusedSectionVars false
open Go Go.Z
theorem swapL_take {l : List Int} {i j m : Nat} (hi : i < m) (hj : j < m) (hm : m ≤ l.length) : ((swapL l i j).take m).Perm (l.take m) := by
  have e : (swapL l i j).take m = swapL (l.take m) i j := by
    unfold swapL
    rw [List.take_set, List.take_set, gI_at (l := l.take m) (by simp; omega), gI_at (l := l.take m) (by simp; omega), gI_at (by omega), gI_at (by omega), List.getElem_take, List.getElem_take]
  rw [e]
  exact swapL_perm (by simp; omega) (by simp; omega)
theorem swapL_drop {l : List Int} {i j m : Nat} (hi : i < m) (hj : j < m) : (swapL l i j).drop m = l.drop m := by
  unfold swapL
  rw [List.drop_set_of_lt hj, List.drop_set_of_lt hi]
end Go.Z.Gr
namespace Go.Proofs.Ytmefecnjliadaaa
set_option maxRecDepth 8000
set_option linter.unusedVariables false
set_option linter.unusedSimpArgs false
set_option linter.unusedSectionVars false
open Go Go.Z Go.Z.Gr
def hpV (b : Nat) : Value := .iface 45 (.pointer (some ⟨b, 0, none⟩))
theorem up_ok {ρ : Nat → Obj → Prop} (b : Nat) (l : List Int) (j : Nat) (hj : j < l.length) (hu : upI l j) (hlen : l.length ≤ 1000001) :
    Con Try.prog ρ 41 #[hpV b, .int .i64 j] [HpA b l] (fun v H => v = .tuple #[] ∧ ∃ l', H = [HpA b l'] ∧ l'.Perm l ∧ isHeap l' l'.length) := by
  refine con_intro Try.func41 Try.call41 rfl Try.ntmps41 rfl (L := [(0, _), (1, _)]) rfl fun w hh => ?_
  refine g_block ?_
  refine g_loop (fun s : Nat × List Int => [(0, hpV b), (1, .int .i64 s.1)]) (fun s => [HpA b s.2]) (fun s => s.1 < s.2.length ∧ s.2.length ≤ 1000001 ∧ s.2.Perm l ∧ upI s.2 s.1) (fun s => s.1) (j, l) ⟨hj, hlen, .refl _, hu⟩ (by (repeat (first | exact trivial | refine ⟨by rfl, ?_⟩)); done) (by repeat' (first | exact Cover.nil | exact Take.here | apply Cover.cons | apply Take.there)) ?_
  rintro ⟨j, l1⟩ ⟨hj, hlen, hp, hu⟩
  dsimp only at hj hlen hp hu ⊢
  by_cases h0 : j = 0
  · subst h0
    refine g_block ?_
    refine g_seq ?_
    refine g_region ?_
    refine g_pure (p_move rfl) rfl ?_
    first | refine g_pure (p_subi rfl rfl (by omega)) rfl ?_ | refine g_pure (p_sub rfl rfl) rfl ?_
    first | refine g_pure (p_quon rfl rfl (by omega) (by omega)) rfl ?_ | refine g_pure (p_quoi rfl rfl (by omega) (by omega)) rfl ?_ | refine g_pure (p_quo rfl rfl (by omega)) rfl ?_
    refine g_pure (p_assign rfl) rfl ?_
    refine g_nil ?_
    refine g_qt ?_
    refine g_seq ?_
    refine g_seq ?_
    refine g_region ?_
    rw [show (((0 : Nat) : Int) - 1).tdiv 2 = ((0 : Nat) : Int) by decide]
    refine g_pure (p_move rfl) rfl ?_
    refine g_pure (p_move rfl) rfl ?_
    refine g_pure (p_eqlT rfl rfl rfl) rfl ?_
    refine g_pure (p_move rfl) rfl ?_
    refine g_no rfl rfl rfl rfl ?_
    refine g_no rfl rfl rfl rfl ?_
    refine g_no rfl rfl rfl rfl ?_
    refine g_no rfl rfl rfl rfl ?_
    refine g_no rfl rfl rfl rfl ?_
    first | refine g_pure (p_pickt rfl rfl) rfl ?_ | refine g_pure (p_pickf rfl rfl) rfl ?_
    refine g_nil ?_
    refine g_qt ?_
    refine g_ift rfl ?_
    refine g_exit ?_
    refine g_qt_exit ?_
    refine g_qb_other rfl ?_
    refine g_qn_exit ?_
    refine g_qb_exit ?_
    exact g_postn (rs := []) rfl .nil ⟨rfl, _, rfl, hp, up_zero hu⟩ (by repeat' (first | exact Cover.nil | exact Take.here | apply Cover.cons | apply Take.there))
  · refine g_block ?_
    refine g_seq ?_
    refine g_region ?_
    refine g_pure (p_move rfl) rfl ?_
    first | refine g_pure (p_subi rfl rfl (by omega)) rfl ?_ | refine g_pure (p_sub rfl rfl) rfl ?_
    first | refine g_pure (p_quon rfl rfl (by omega) (by omega)) rfl ?_ | refine g_pure (p_quoi rfl rfl (by omega) (by omega)) rfl ?_ | refine g_pure (p_quo rfl rfl (by omega)) rfl ?_
    refine g_pure (p_assign rfl) rfl ?_
    refine g_nil ?_
    refine g_qt ?_
    refine g_seq ?_
    refine g_seq ?_
    refine g_region ?_
    rw [show ((j : Int) - 1) / 2 = (((j - 1) / 2 : Nat) : Int) by omega]
    refine g_pure (p_move rfl) rfl ?_
    refine g_pure (p_move rfl) rfl ?_
    refine g_pure (p_eqlF rfl rfl (by omega)) rfl ?_
    refine g_pure (p_move rfl) rfl ?_
    refine g_yes rfl rfl ?_
    refine g_pure (p_move rfl) rfl ?_
    refine g_yes rfl rfl ?_
    refine g_pure (p_move rfl) rfl ?_
    refine g_yes rfl rfl ?_
    refine g_pure (p_move rfl) rfl ?_
    refine g_open .here ?_
    rintro _ ⟨a, c, rfl⟩
    refine g_yes rfl rfl ?_
    refine g_icall (Hin := [OwnSl 3 1 a l1.length c (l1.map encI)]) (Hr := ?hr1) (R := ?rr1) rfl rfl rfl (fun w hm => mth_less ((Has.own (by repeat' (first | exact Take.here | apply Take.there))) w hm) _ _) ?hin1 ?hc1 ?hk1
    case hin1 => repeat' (first | exact Cover.nil | exact Take.here | apply Cover.cons | apply Take.there)
    case hc1 => intro ρ' hρ hR; exact hless_ok a c l1 j ((j - 1) / 2) hj (by omega)
    rintro _ _ ⟨rfl, rfl⟩
    refine g_yes rfl rfl ?_
    refine g_pure (p_not rfl) rfl ?_
    first | refine g_pure (p_pickt rfl rfl) rfl ?_ | refine g_pure (p_pickf rfl rfl) rfl ?_
    refine g_nil ?_
    refine g_qt ?_
    refine g_ifnd rfl (fun q => ?_) (fun q => ?_)
    · refine g_close (K := HpK b l1) ⟨a, c, rfl⟩ (by repeat' (first | exact Cover.nil | exact Take.here | apply Cover.cons | apply Take.there)) ?_
      refine g_exit ?_
      refine g_qt_exit ?_
      refine g_qb_other rfl ?_
      refine g_qn_exit ?_
      refine g_qb_exit ?_
      exact g_postn (rs := []) rfl .nil ⟨rfl, _, rfl, hp, up_stop hu q⟩ (by repeat' (first | exact Cover.nil | exact Take.here | apply Cover.cons | apply Take.there))
    · refine g_skip ?_
      refine g_qt ?_
      refine g_seq ?_
      refine g_region ?_
      refine g_pure (p_move rfl) rfl ?_
      refine g_pure (p_move rfl) rfl ?_
      refine g_pure (p_move rfl) rfl ?_
      refine g_icall (Hin := [OwnSl 3 1 a l1.length c (l1.map encI)]) (Hr := ?hr2) (R := ?rr2) rfl rfl rfl (fun w hm => mth_swap ((Has.own (by repeat' (first | exact Take.here | apply Take.there))) w hm) _ _) ?hin2 ?hc2 ?hk2
      case hin2 => repeat' (first | exact Cover.nil | exact Take.here | apply Cover.cons | apply Take.there)
      case hc2 => intro ρ' hρ hR; exact hswap_ok a c l1 ((j - 1) / 2) j (by omega) hj
      rintro _ _ ⟨rfl, rfl⟩
      refine g_nil ?_
      refine g_qt ?_
      refine g_region ?_
      refine g_pure (p_move rfl) rfl ?_
      refine g_pure (p_assign rfl) rfl ?_
      refine g_nil ?_
      refine g_qb ?_
      refine g_qn ?_
      have hsl := swapL_len l1 ((j - 1) / 2) j
      rw [← hsl]
      refine g_close (K := HpK b (swapL l1 ((j - 1) / 2) j)) ⟨a, c, rfl⟩ (by repeat' (first | exact Cover.nil | exact Take.here | apply Cover.cons | apply Take.there)) ?_
      exact g_next ((j - 1) / 2, swapL l1 ((j - 1) / 2) j) (by (repeat (first | exact trivial | refine ⟨by rfl, ?_⟩)); done) (by repeat' (first | exact Cover.nil | exact Take.here | apply Cover.cons | apply Take.there)) ⟨by dsimp only; omega, by dsimp only; omega, (swapL_perm (by omega) hj).trans hp, up_step hu (by omega) hj q⟩ (by dsimp only; omega)
theorem down_ok {ρ : Nat → Obj → Prop} (b : Nat) (l : List Int) (m : Nat) (hm : m ≤ l.length) (hu : dnI l 0 m) (hlen : l.length ≤ 1000001) :
    Con Try.prog ρ 42 #[hpV b, .int .i64 0, .int .i64 m] [HpA b l] (fun v H => ∃ x l', v = .bool x ∧ H = [HpA b l'] ∧ l'.length = l.length ∧ (l'.take m).Perm (l.take m) ∧ l'.drop m = l.drop m ∧ isHeap l' m) := by
  refine con_intro Try.func42 Try.call42 rfl Try.ntmps42 rfl (L := [(0, _), (1, _), (2, _)]) rfl fun w hh => ?_
  refine g_seq ?_
  refine g_region ?_
  refine g_pure (p_assign rfl) rfl ?_
  refine g_nil ?_
  refine g_qt ?_
  refine g_seq ?_
  refine g_region ?_
  refine g_pure (p_move rfl) rfl ?_
  refine g_pure (p_assign rfl) rfl ?_
  refine g_nil ?_
  refine g_qt ?_
  refine g_seq ?_
  refine g_block ?_
  refine g_loop (fun s : Nat × List Int => [(0, hpV b), (1, .int .i64 0), (2, .int .i64 m), (7, .int .i64 s.1)]) (fun s => [HpA b s.2]) (fun s => s.2.length = l.length ∧ (s.2.take m).Perm (l.take m) ∧ s.2.drop m = l.drop m ∧ dnI s.2 s.1 m ∧ s.1 ≤ m) (fun s => m - s.1) (0, l) ⟨rfl, .refl _, rfl, hu, Nat.zero_le _⟩ (by (repeat (first | exact trivial | refine ⟨by rfl, ?_⟩)); done) (by repeat' (first | exact Cover.nil | exact Take.here | apply Cover.cons | apply Take.there)) ?_
  rintro ⟨i, l1⟩ ⟨hl1, hp, hd, hu, him⟩
  dsimp only at hl1 hp hd hu him ⊢
  refine g_block ?_
  refine g_seq ?_
  refine g_region ?_
  refine g_pure (p_move rfl) rfl ?_
  first | refine g_pure (p_muli rfl rfl (by omega)) rfl ?_ | refine g_pure (p_mul rfl rfl) rfl ?_
  first | refine g_pure (p_addi rfl rfl (by omega)) rfl ?_ | refine g_pure (p_add rfl rfl) rfl ?_
  refine g_pure (p_assign rfl) rfl ?_
  refine g_nil ?_
  refine g_qt ?_
  refine g_seq ?_
  refine g_seq ?_
  refine g_region ?_
  rw [show (2 * (i : Int) + 1) = ((2 * i + 1 : Nat) : Int) by omega]
  refine g_pure (p_move rfl) rfl ?_
  refine g_pure (p_move rfl) rfl ?_
  refine g_pure (p_geq rfl rfl) rfl ?_
  refine g_pure (p_move rfl) rfl ?_
  refine g_splitd rfl rfl (fun h1 => ?_) (fun h1 => ?_)
  · refine g_no rfl rfl rfl rfl ?_
    refine g_no rfl rfl rfl rfl ?_
    first | refine g_pure (p_pickt rfl rfl) rfl ?_ | refine g_pure (p_pickf rfl rfl) rfl ?_
    refine g_nil ?_
    refine g_qt ?_
    refine g_ift rfl ?_
    refine g_exit ?_
    refine g_qt_exit ?_
    refine g_qb_other rfl ?_
    refine g_qn_exit ?_
    refine g_qb_exit ?_
    refine g_qt ?_
    refine g_seq ?_
    refine g_region ?_
    refine g_pure (p_move rfl) rfl ?_
    refine g_pure (p_move rfl) rfl ?_
    refine g_pure (p_gtr rfl rfl) rfl ?_
    refine g_pure (p_assign rfl) rfl ?_
    refine g_nil ?_
    refine g_qt ?_
    refine g_ret ?_
    exact g_post (rs := [.tmp 6]) rfl (.tmp rfl .nil) ⟨_, _, rfl, rfl, hl1, hp, hd, dn_none hu (by omega)⟩ (by repeat' (first | exact Cover.nil | exact Take.here | apply Cover.cons | apply Take.there))
  · refine g_yes rfl rfl ?_
    refine g_pure (p_move rfl) rfl ?_
    refine g_yes rfl rfl ?_
    refine g_pure (p_lss rfl rfl) rfl ?_
    first | refine g_pure (p_pickt rfl rfl) rfl ?_ | refine g_pure (p_pickf rfl rfl) rfl ?_
    refine g_nil ?_
    refine g_qt ?_
    refine g_ifd rfl (fun h2 => ?_) (fun h2 => ?_)
    · exact absurd h2 (by omega)
    · refine g_skip ?_
      refine g_qt ?_
      refine g_seq ?_
      refine g_region ?_
      refine g_pure (p_move rfl) rfl ?_
      refine g_pure (p_assign rfl) rfl ?_
      refine g_nil ?_
      refine g_qt ?_
      refine g_seq ?_
      refine g_seq ?_
      refine g_region ?_
      refine g_pure (p_move rfl) rfl ?_
      first | refine g_pure (p_addi rfl rfl (by omega)) rfl ?_ | refine g_pure (p_add rfl rfl) rfl ?_
      refine g_pure (p_assign rfl) rfl ?_
      refine g_nil ?_
      refine g_qt ?_
      refine g_seq ?_
      refine g_region ?_
      rw [show (((2 * i + 1 : Nat) : Int) + 1) = ((2 * i + 2 : Nat) : Int) by omega]
      refine g_pure (p_move rfl) rfl ?_
      refine g_pure (p_move rfl) rfl ?_
      refine g_pure (p_lss rfl rfl) rfl ?_
      refine g_pure (p_move rfl) rfl ?_
      refine g_open .here ?_
      rintro _ ⟨a, c, rfl⟩
      refine g_splitd rfl rfl (fun h3 => ?_) (fun h3 => ?_)
      · refine g_yes rfl rfl ?_
        refine g_pure (p_move rfl) rfl ?_
        refine g_yes rfl rfl ?_
        refine g_pure (p_move rfl) rfl ?_
        refine g_yes rfl rfl ?_
        refine g_pure (p_move rfl) rfl ?_
        refine g_yes rfl rfl ?_
        refine g_icall (Hin := [OwnSl 3 1 a l1.length c (l1.map encI)]) (Hr := ?hr3) (R := ?rr3) rfl rfl rfl (fun w hm => mth_less ((Has.own (by repeat' (first | exact Take.here | apply Take.there))) w hm) _ _) ?hin3 ?hc3 ?hk3
        case hin3 => repeat' (first | exact Cover.nil | exact Take.here | apply Cover.cons | apply Take.there)
        case hc3 => intro ρ' hρ hR; exact hless_ok a c l1 (2 * i + 2) (2 * i + 1) (by omega) (by omega)
        rintro _ _ ⟨rfl, rfl⟩
        first | refine g_pure (p_pickt rfl rfl) rfl ?_ | refine g_pure (p_pickf rfl rfl) rfl ?_
        refine g_nil ?_
        refine g_qt ?_
        refine g_ifd rfl (fun h4 => ?_) (fun h4 => ?_)
        · have hmin : ∀ c, 0 < c → c < m → (c - 1) / 2 = i → gI l1 (2 * i + 2) ≤ gI l1 c := fun c _ _ _ => by
            rcases (by omega : c = 2 * i + 1 ∨ c = 2 * i + 2) with e | e <;> rw [e] <;> omega
          refine g_region ?_
          refine g_pure (p_move rfl) rfl ?_
          refine g_pure (p_assign rfl) rfl ?_
          refine g_nil ?_
          refine g_qt ?_
          refine g_seq ?_
          refine g_seq ?_
          refine g_region ?_
          refine g_pure (p_move rfl) rfl ?_
          refine g_pure (p_move rfl) rfl ?_
          refine g_pure (p_move rfl) rfl ?_
          refine g_icall (Hin := [OwnSl 3 1 a l1.length c (l1.map encI)]) (Hr := ?hr4) (R := ?rr4) rfl rfl rfl (fun w hm => mth_less ((Has.own (by repeat' (first | exact Take.here | apply Take.there))) w hm) _ _) ?hin4 ?hc4 ?hk4
          case hin4 => repeat' (first | exact Cover.nil | exact Take.here | apply Cover.cons | apply Take.there)
          case hc4 => intro ρ' hρ hR; exact hless_ok a c l1 (2 * i + 2) i (by omega) (by omega)
          rintro _ _ ⟨rfl, rfl⟩
          refine g_pure (p_not rfl) rfl ?_
          refine g_nil ?_
          refine g_qt ?_
          refine g_ifnd rfl (fun q => ?_) (fun q => ?_)
          · refine g_close (K := HpK b l1) ⟨a, c, rfl⟩ (by repeat' (first | exact Cover.nil | exact Take.here | apply Cover.cons | apply Take.there)) ?_
            refine g_exit ?_
            refine g_qt_exit ?_
            refine g_qb_other rfl ?_
            refine g_qn_exit ?_
            refine g_qb_exit ?_
            refine g_qt ?_
            refine g_seq ?_
            refine g_region ?_
            refine g_pure (p_move rfl) rfl ?_
            refine g_pure (p_move rfl) rfl ?_
            refine g_pure (p_gtr rfl rfl) rfl ?_
            refine g_pure (p_assign rfl) rfl ?_
            refine g_nil ?_
            refine g_qt ?_
            refine g_ret ?_
            exact g_post (rs := [.tmp 6]) rfl (.tmp rfl .nil) ⟨_, _, rfl, rfl, hl1, hp, hd, dn_stop hu hmin q⟩ (by repeat' (first | exact Cover.nil | exact Take.here | apply Cover.cons | apply Take.there))
          · refine g_skip ?_
            refine g_qt ?_
            refine g_seq ?_
            refine g_region ?_
            refine g_pure (p_move rfl) rfl ?_
            refine g_pure (p_move rfl) rfl ?_
            refine g_pure (p_move rfl) rfl ?_
            refine g_icall (Hin := [OwnSl 3 1 a l1.length c (l1.map encI)]) (Hr := ?hr5) (R := ?rr5) rfl rfl rfl (fun w hm => mth_swap ((Has.own (by repeat' (first | exact Take.here | apply Take.there))) w hm) _ _) ?hin5 ?hc5 ?hk5
            case hin5 => repeat' (first | exact Cover.nil | exact Take.here | apply Cover.cons | apply Take.there)
            case hc5 => intro ρ' hρ hR; exact hswap_ok a c l1 i (2 * i + 2) (by omega) (by omega)
            rintro _ _ ⟨rfl, rfl⟩
            refine g_nil ?_
            refine g_qt ?_
            refine g_region ?_
            refine g_pure (p_move rfl) rfl ?_
            refine g_pure (p_assign rfl) rfl ?_
            refine g_nil ?_
            refine g_qb ?_
            refine g_qn ?_
            have hsl := swapL_len l1 i (2 * i + 2)
            rw [← hsl]
            refine g_close (K := HpK b (swapL l1 i (2 * i + 2))) ⟨a, c, rfl⟩ (by repeat' (first | exact Cover.nil | exact Take.here | apply Cover.cons | apply Take.there)) ?_
            exact g_next (2 * i + 2, swapL l1 i (2 * i + 2)) (by (repeat (first | exact trivial | refine ⟨by rfl, ?_⟩)); done) (by repeat' (first | exact Cover.nil | exact Take.here | apply Cover.cons | apply Take.there)) ⟨by dsimp only; omega, (swapL_take (by omega) (by omega) (by omega)).trans hp, (swapL_drop (by omega) (by omega)).trans hd, dn_step hu (by omega) (by omega) (by omega) hmin q, by dsimp only; omega⟩ (by dsimp only; omega)
        · have hmin : ∀ c, 0 < c → c < m → (c - 1) / 2 = i → gI l1 (2 * i + 1) ≤ gI l1 c := fun c _ _ _ => by
            rcases (by omega : c = 2 * i + 1 ∨ c = 2 * i + 2) with e | e <;> rw [e] <;> omega
          refine g_skip ?_
          refine g_qt ?_
          refine g_seq ?_
          refine g_seq ?_
          refine g_region ?_
          refine g_pure (p_move rfl) rfl ?_
          refine g_pure (p_move rfl) rfl ?_
          refine g_pure (p_move rfl) rfl ?_
          refine g_icall (Hin := [OwnSl 3 1 a l1.length c (l1.map encI)]) (Hr := ?hr6) (R := ?rr6) rfl rfl rfl (fun w hm => mth_less ((Has.own (by repeat' (first | exact Take.here | apply Take.there))) w hm) _ _) ?hin6 ?hc6 ?hk6
          case hin6 => repeat' (first | exact Cover.nil | exact Take.here | apply Cover.cons | apply Take.there)
          case hc6 => intro ρ' hρ hR; exact hless_ok a c l1 (2 * i + 1) i (by omega) (by omega)
          rintro _ _ ⟨rfl, rfl⟩
          refine g_pure (p_not rfl) rfl ?_
          refine g_nil ?_
          refine g_qt ?_
          refine g_ifnd rfl (fun q => ?_) (fun q => ?_)
          · refine g_close (K := HpK b l1) ⟨a, c, rfl⟩ (by repeat' (first | exact Cover.nil | exact Take.here | apply Cover.cons | apply Take.there)) ?_
            refine g_exit ?_
            refine g_qt_exit ?_
            refine g_qb_other rfl ?_
            refine g_qn_exit ?_
            refine g_qb_exit ?_
            refine g_qt ?_
            refine g_seq ?_
            refine g_region ?_
            refine g_pure (p_move rfl) rfl ?_
            refine g_pure (p_move rfl) rfl ?_
            refine g_pure (p_gtr rfl rfl) rfl ?_
            refine g_pure (p_assign rfl) rfl ?_
            refine g_nil ?_
            refine g_qt ?_
            refine g_ret ?_
            exact g_post (rs := [.tmp 6]) rfl (.tmp rfl .nil) ⟨_, _, rfl, rfl, hl1, hp, hd, dn_stop hu hmin q⟩ (by repeat' (first | exact Cover.nil | exact Take.here | apply Cover.cons | apply Take.there))
          · refine g_skip ?_
            refine g_qt ?_
            refine g_seq ?_
            refine g_region ?_
            refine g_pure (p_move rfl) rfl ?_
            refine g_pure (p_move rfl) rfl ?_
            refine g_pure (p_move rfl) rfl ?_
            refine g_icall (Hin := [OwnSl 3 1 a l1.length c (l1.map encI)]) (Hr := ?hr7) (R := ?rr7) rfl rfl rfl (fun w hm => mth_swap ((Has.own (by repeat' (first | exact Take.here | apply Take.there))) w hm) _ _) ?hin7 ?hc7 ?hk7
            case hin7 => repeat' (first | exact Cover.nil | exact Take.here | apply Cover.cons | apply Take.there)
            case hc7 => intro ρ' hρ hR; exact hswap_ok a c l1 i (2 * i + 1) (by omega) (by omega)
            rintro _ _ ⟨rfl, rfl⟩
            refine g_nil ?_
            refine g_qt ?_
            refine g_region ?_
            refine g_pure (p_move rfl) rfl ?_
            refine g_pure (p_assign rfl) rfl ?_
            refine g_nil ?_
            refine g_qb ?_
            refine g_qn ?_
            have hsl := swapL_len l1 i (2 * i + 1)
            rw [← hsl]
            refine g_close (K := HpK b (swapL l1 i (2 * i + 1))) ⟨a, c, rfl⟩ (by repeat' (first | exact Cover.nil | exact Take.here | apply Cover.cons | apply Take.there)) ?_
            exact g_next (2 * i + 1, swapL l1 i (2 * i + 1)) (by (repeat (first | exact trivial | refine ⟨by rfl, ?_⟩)); done) (by repeat' (first | exact Cover.nil | exact Take.here | apply Cover.cons | apply Take.there)) ⟨by dsimp only; omega, (swapL_take (by omega) (by omega) (by omega)).trans hp, (swapL_drop (by omega) (by omega)).trans hd, dn_step hu (by omega) (by omega) (by omega) hmin q, by dsimp only; omega⟩ (by dsimp only; omega)
      · have hmin : ∀ c, 0 < c → c < m → (c - 1) / 2 = i → gI l1 (2 * i + 1) ≤ gI l1 c := fun c _ _ _ => by
          rw [(by omega : c = 2 * i + 1)]; exact Int.le_refl _
        refine g_no rfl rfl rfl rfl ?_
        refine g_no rfl rfl rfl rfl ?_
        refine g_no rfl rfl rfl rfl ?_
        refine g_no rfl rfl rfl rfl ?_
        first | refine g_pure (p_pickt rfl rfl) rfl ?_ | refine g_pure (p_pickf rfl rfl) rfl ?_
        refine g_nil ?_
        refine g_qt ?_
        refine g_iff rfl ?_
        refine g_skip ?_
        refine g_qt ?_
        refine g_seq ?_
        refine g_seq ?_
        refine g_region ?_
        refine g_pure (p_move rfl) rfl ?_
        refine g_pure (p_move rfl) rfl ?_
        refine g_pure (p_move rfl) rfl ?_
        refine g_icall (Hin := [OwnSl 3 1 a l1.length c (l1.map encI)]) (Hr := ?hr8) (R := ?rr8) rfl rfl rfl (fun w hm => mth_less ((Has.own (by repeat' (first | exact Take.here | apply Take.there))) w hm) _ _) ?hin8 ?hc8 ?hk8
        case hin8 => repeat' (first | exact Cover.nil | exact Take.here | apply Cover.cons | apply Take.there)
        case hc8 => intro ρ' hρ hR; exact hless_ok a c l1 (2 * i + 1) i (by omega) (by omega)
        rintro _ _ ⟨rfl, rfl⟩
        refine g_pure (p_not rfl) rfl ?_
        refine g_nil ?_
        refine g_qt ?_
        refine g_ifnd rfl (fun q => ?_) (fun q => ?_)
        · refine g_close (K := HpK b l1) ⟨a, c, rfl⟩ (by repeat' (first | exact Cover.nil | exact Take.here | apply Cover.cons | apply Take.there)) ?_
          refine g_exit ?_
          refine g_qt_exit ?_
          refine g_qb_other rfl ?_
          refine g_qn_exit ?_
          refine g_qb_exit ?_
          refine g_qt ?_
          refine g_seq ?_
          refine g_region ?_
          refine g_pure (p_move rfl) rfl ?_
          refine g_pure (p_move rfl) rfl ?_
          refine g_pure (p_gtr rfl rfl) rfl ?_
          refine g_pure (p_assign rfl) rfl ?_
          refine g_nil ?_
          refine g_qt ?_
          refine g_ret ?_
          exact g_post (rs := [.tmp 6]) rfl (.tmp rfl .nil) ⟨_, _, rfl, rfl, hl1, hp, hd, dn_stop hu hmin q⟩ (by repeat' (first | exact Cover.nil | exact Take.here | apply Cover.cons | apply Take.there))
        · refine g_skip ?_
          refine g_qt ?_
          refine g_seq ?_
          refine g_region ?_
          refine g_pure (p_move rfl) rfl ?_
          refine g_pure (p_move rfl) rfl ?_
          refine g_pure (p_move rfl) rfl ?_
          refine g_icall (Hin := [OwnSl 3 1 a l1.length c (l1.map encI)]) (Hr := ?hr9) (R := ?rr9) rfl rfl rfl (fun w hm => mth_swap ((Has.own (by repeat' (first | exact Take.here | apply Take.there))) w hm) _ _) ?hin9 ?hc9 ?hk9
          case hin9 => repeat' (first | exact Cover.nil | exact Take.here | apply Cover.cons | apply Take.there)
          case hc9 => intro ρ' hρ hR; exact hswap_ok a c l1 i (2 * i + 1) (by omega) (by omega)
          rintro _ _ ⟨rfl, rfl⟩
          refine g_nil ?_
          refine g_qt ?_
          refine g_region ?_
          refine g_pure (p_move rfl) rfl ?_
          refine g_pure (p_assign rfl) rfl ?_
          refine g_nil ?_
          refine g_qb ?_
          refine g_qn ?_
          have hsl := swapL_len l1 i (2 * i + 1)
          rw [← hsl]
          refine g_close (K := HpK b (swapL l1 i (2 * i + 1))) ⟨a, c, rfl⟩ (by repeat' (first | exact Cover.nil | exact Take.here | apply Cover.cons | apply Take.there)) ?_
          exact g_next (2 * i + 1, swapL l1 i (2 * i + 1)) (by (repeat (first | exact trivial | refine ⟨by rfl, ?_⟩)); done) (by repeat' (first | exact Cover.nil | exact Take.here | apply Cover.cons | apply Take.there)) ⟨by dsimp only; omega, (swapL_take (by omega) (by omega) (by omega)).trans hp, (swapL_drop (by omega) (by omega)).trans hd, dn_step hu (by omega) (by omega) (by omega) hmin q, by dsimp only; omega⟩ (by dsimp only; omega)
end Go.Proofs.Ytmefecnjliadaaa
