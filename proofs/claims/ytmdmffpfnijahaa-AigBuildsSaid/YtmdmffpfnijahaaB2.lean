/- Chapter 35: any calls of both graphs. Conditions: none. -/
import Derived.Test.YtmdmffpfnijahaaB1
namespace Go.Proofs.Ytmdmffpfnijahaa
set_option linter.unusedVariables false
set_option linter.unusedSimpArgs false
set_option linter.unusedSectionVars false
open Go Go.Z Go.Z.Aig

theorem encC_len (x : Call) : (encC x).length = 4 := rfl
def after (l : List Call) : St := l.foldl callS L0
theorem after_snoc (l : List Call) (k : Nat) (hk : k < l.length) : after (l.take (k + 1)) = callS (after (l.take k)) l[k] := by
  unfold after; rw [List.take_add_one, List.getElem?_eq_getElem hk, Option.toList_some, List.foldl_append]; rfl

theorem built_ok {ρ : Nat → Obj → Prop} (a : Option Addr) (c : Nat) (l : List Call) (hl : RSl ρ 4 a l.length (l.flatMap encC)) (hlen : l.length ≤ 9223372036854775806) (hx : ∀ x ∈ l, x.ok) : Con Try.prog ρ 11 #[.slice a l.length c] []
    (fun v H => ∃ p m, v = .tuple #[.pointer (some ⟨p, 0, none⟩), .pointer (some ⟨m, 0, none⟩), .bool true] ∧ H = [Gr p (after l), Rf m (after l)]) := by
  obtain ⟨b, off, cs, T, fz, hr⟩ := RSl.row encC_len hl
  refine con_intro Try.func11 Try.call11 rfl Try.ntmps11 rfl (L := [(0, _)]) rfl fun w hh => ?_
  refine g_seq ?_
  refine g_region ?_
  refine g_pure (p_assign rfl) rfl ?_
  refine g_pure (p_assign rfl) rfl ?_
  refine g_pure (p_assign rfl) rfl ?_
  refine g_nil ?_
  refine g_qt ?_
  refine g_seq ?_
  refine g_region ?_
  refine g_call (Hin := []) (Hr := ?hr1) (R := ?rr1) rfl rfl rfl ?hin1 ?hc1 ?hk1
  case hin1 => repeat' (first | exact Cover.nil | exact Take.here | apply Cover.cons | apply Take.there)
  case hc1 => intro ρ' hρ hR; exact new_ok
  rintro _ _ ⟨p, rfl, rfl⟩
  refine g_call (Hin := []) (Hr := ?hr2) (R := ?rr2) rfl rfl rfl ?hin2 ?hc2 ?hk2
  case hin2 => repeat' (first | exact Cover.nil | exact Take.here | apply Cover.cons | apply Take.there)
  case hc2 => intro ρ' hρ hR; exact rnew_ok
  rintro _ _ ⟨m, rfl, rfl⟩
  refine g_pure (p_assign rfl) rfl ?_
  refine g_pure (p_assign rfl) rfl ?_
  refine g_nil ?_
  refine g_qt ?_
  refine g_seq ?_
  refine g_seq ?_
  refine g_region ?_
  refine g_pure (p_move rfl) rfl ?_
  refine g_pure (p_eqnil (by rfl) rfl rfl) rfl ?_
  refine g_nil ?_
  refine g_qt ?_
  refine g_iff rfl ?_
  refine g_skip ?_
  refine g_qt ?_
  refine g_seq ?_
  refine g_seq ?_
  refine g_region ?_
  refine g_pure (p_assign rfl) rfl ?_
  refine g_nil ?_
  refine g_qt ?_
  refine g_block ?_
  refine g_loop (fun k : Nat => [(0, .slice a l.length c), (5, .pointer (some ⟨p, 0, none⟩)), (6, .pointer (some ⟨m, 0, none⟩)), (7, .int .i64 k)])
    (fun k => [Gr p (after (l.take k)), Rf m (after (l.take k))]) (fun k => k ≤ l.length) (fun k => l.length - k) 0 (Nat.zero_le _) (by repeat (first | exact trivial | refine ⟨by rfl, ?_⟩)) (by repeat' (first | exact Cover.nil | exact Take.here | apply Cover.cons | apply Take.there)) fun k hk => ?_
  refine g_seq ?_
  refine g_seq ?_
  refine g_region ?_
  refine g_pure (p_move rfl) rfl ?_
  refine g_pure (p_move rfl) rfl ?_
  refine g_pure (p_len (by rfl) rfl) rfl ?_
  refine g_pure (p_lss rfl rfl) rfl ?_
  refine g_nil ?_
  refine g_qt ?_
  refine g_ifd rfl (fun h => ?_) (fun h => ?_)
  · have hkl : k < l.length := by omega
    obtain ⟨r1, r2, r3⟩ := hr (by omega)
    obtain ⟨q1, q2⟩ := r3 k hkl
    have hok := hx l[k] (List.getElem_mem hkl)
    have q3 : sub cs (off + (k : Int).toNat * 4) 4 = some (encC l[k]) := by rw [Int.toNat_natCast]; exact q1 (by decide)
    refine g_skip ?_
    refine g_qt ?_
    refine g_seq ?_
    refine g_block ?_
    refine g_seq ?_
    refine g_region ?_
    refine g_pure (p_move rfl) rfl ?_
    refine g_pure (p_move rfl) rfl ?_
    refine g_pure (p_move rfl) rfl ?_
    refine g_pure (p_move rfl) rfl ?_
    refine g_pure (p_indexAddr rfl rfl (by omega) (fun _ => r1)) rfl ?_
    refine g_pure (p_loadN (by rfl) rfl (Has.ro r2) q3) rfl ?_
    refine g_call (Hin := ?hi3) (Hr := ?hr3) (R := ?rr3) rfl rfl rfl ?hin3 ?hc3 ?hk3
    case hc3 => intro ρ' hρ hR; exact act_ok p m (after (l.take k)) l[k] hok
    case hin3 => repeat' (first | exact Cover.nil | exact Take.here | apply Cover.cons | apply Take.there)
    rintro _ _ ⟨rfl, rfl⟩
    refine g_pure (p_not rfl) rfl ?_
    refine g_nil ?_
    refine g_qt ?_
    refine g_iff rfl ?_
    refine g_skip ?_
    refine g_qb ?_
    refine g_qt ?_
    refine g_region ?_
    refine g_pure (p_move rfl) rfl ?_
    first | refine g_pure (p_addi rfl rfl (by omega)) rfl ?_ | refine g_pure (p_add rfl rfl) rfl ?_
    refine g_pure (p_assign rfl) rfl ?_
    refine g_nil ?_
    refine g_qn ?_
    rw [← after_snoc l k hkl]
    exact g_next (k + 1) (by repeat (first | exact trivial | refine ⟨by rfl, ?_⟩)) (by repeat' (first | exact Cover.nil | exact Take.here | apply Cover.cons | apply Take.there)) (by omega) (by omega)
  · have hke : k = l.length := by omega
    subst hke
    refine g_exit ?_
    refine g_qt_exit ?_
    refine g_qn_exit ?_
    refine g_qb_exit ?_
    refine g_qt ?_
    refine g_seq ?_
    refine g_region ?_
    refine g_pure (p_move rfl) rfl ?_
    refine g_pure (p_move rfl) rfl ?_
    refine g_pure (p_assign rfl) rfl ?_
    refine g_pure (p_assign rfl) rfl ?_
    refine g_pure (p_assign rfl) rfl ?_
    refine g_nil ?_
    refine g_qt ?_
    refine g_ret ?_
    rw [List.take_of_length_le (Nat.le_refl _)]
    exact g_post (rs := [.tmp 2, .tmp 3, .tmp 4]) rfl (.tmp rfl (.tmp rfl (.tmp rfl .nil))) ⟨p, m, rfl, rfl⟩ (by repeat' (first | exact Cover.nil | exact Take.here | apply Cover.cons | apply Take.there))
end Go.Proofs.Ytmdmffpfnijahaa
