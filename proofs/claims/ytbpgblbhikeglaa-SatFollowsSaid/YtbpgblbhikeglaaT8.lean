/- Chapter 37: Solve. Conditions: none. -/
import Derived.Test.YtbpgblbhikeglaaT7
namespace Go.Z.Sat
set_option linter.unusedVariables false
set_option linter.unusedSimpArgs false
set_option linter.unusedSectionVars false
open Go Go.Z Go.Proofs.Ytbpgblbhikeglaa
/-- what Solve answers -/
def Sol (n : Int) (F : Fm) (bud : Int) (code : Int) (cells : List Value) (e : Int) : Prop :=
  (bud < 0 ∧ code = 0 ∧ cells = [] ∧ e = 2) ∨ (0 ≤ bud ∧ check1 n F ≠ 0 ∧ code = 0 ∧ cells = [] ∧ e = check1 n F) ∨
  (0 ≤ bud ∧ check1 n F = 0 ∧ e = 0 ∧ ∃ r, Sat.Reach F n.toNat bud (fun _ => none) [] 0 r ∧ code = ocode r ∧ cells = ocells n.toNat r)
theorem check1_nonneg {n : Int} {F : Fm} (h : check1 n F = 0) : 0 ≤ n ∧ n ≤ 262144 := by
  unfold check1 at h
  split at h
  · cases h
  · split at h
    · cases h
    · omega
theorem Sol.unique {n : Int} {F : Fm} {bud c1 c2 e1 e2 : Int} {x1 x2 : List Value} (hO : check1 n F = 0 → okF n.toNat F) (h : Sol n F bud c1 x1 e1) (k : Sol n F bud c2 x2 e2) : c1 = c2 ∧ x1 = x2 ∧ e1 = e2 := by
  rcases h with ⟨h1, rfl, rfl, rfl⟩ | ⟨h1, h2, rfl, rfl, rfl⟩ | ⟨h1, h2, rfl, r, h3, rfl, rfl⟩
  · rcases k with ⟨k1, rfl, rfl, rfl⟩ | ⟨k1, k2, rfl, rfl, rfl⟩ | ⟨k1, k2, rfl, s, k3, rfl, rfl⟩
    · exact ⟨rfl, rfl, rfl⟩
    · omega
    · omega
  · rcases k with ⟨k1, rfl, rfl, rfl⟩ | ⟨k1, k2, rfl, rfl, rfl⟩ | ⟨k1, k2, rfl, s, k3, rfl, rfl⟩
    · omega
    · exact ⟨rfl, rfl, rfl⟩
    · exact absurd k2 h2
  · rcases k with ⟨k1, rfl, rfl, rfl⟩ | ⟨k1, k2, rfl, rfl, rfl⟩ | ⟨k1, k2, rfl, s, k3, rfl, rfl⟩
    · omega
    · exact absurd h2 k2
    · cases h3.unique (hO h2) k3; exact ⟨rfl, rfl, rfl⟩
end Go.Z.Sat
namespace Go.Proofs.Ytbpgblbhikeglaa
open Go Go.Z Go.Z.Sat

def SolP (n : Int) (F : Fm) (bud : Int) (v : Value) (H : List Assn) : Prop := ∃ code cells a c e, Sol n F bud code cells e ∧ v = .tuple #[.int .i64 code, .slice a cells.length c, .int .i64 e] ∧ H = [OwnSl 4 1 a cells.length c cells]

theorem solve_ok {ρ : Nat → Obj → Prop} (n : Int) (hn : I64 n) (ca : Option Addr) (cc : Nat) (F : Fm) (hF : FmR ρ ca F) (hO : check1 n F = 0 → Ok n.toNat F) (bud : Int) (hb : I64 bud) :
    Con Try.prog ρ 10 #[.agg #[.int .i64 n, .slice ca F.length cc], .int .i64 bud] [] (SolP n F bud) := by
  have hcases : check1 n F = 0 ∨ check1 n F ≠ 0 := Decidable.em _
  refine con_intro Try.func10 Try.call10 rfl Try.ntmps10 rfl (L := [(0, _), (1, _)]) rfl fun w hh => ?_
  refine g_seq ?_
  refine g_region ?_
  refine g_eff (e_box rfl (by rfl)) rfl (fun _ _ => ?_)
  rintro ⟨b2, rfl, rfl⟩
  refine g_pure (p_assign rfl) rfl ?_
  refine g_pure (p_assign rfl) rfl ?_
  refine g_pure (p_assign rfl) rfl ?_
  refine g_nil ?_
  refine g_qt ?_
  refine g_seq ?_
  refine g_seq ?_
  refine g_region ?_
  refine g_pure (p_move rfl) rfl ?_
  refine g_pure (p_lss rfl rfl) rfl ?_
  refine g_nil ?_
  refine g_qt ?_
  refine g_ifd rfl (fun q => ?_) (fun q => ?_)
  · refine g_seq ?_
    refine g_region ?_
    refine g_pure (p_assign rfl) rfl ?_
    refine g_pure (p_assign rfl) rfl ?_
    refine g_pure (p_assign rfl) rfl ?_
    refine g_nil ?_
    refine g_qt ?_
    refine g_ret ?_
    refine g_qt_ret ?_
    refine g_ownnil (e := 4) (size := 1) ?_
    exact g_post (rs := [.tmp 4, .tmp 5, .tmp 6]) rfl (.tmp rfl (.tmp rfl (.tmp rfl .nil))) ⟨0, [], none, 0, 2, .inl ⟨q, rfl, rfl, rfl⟩, rfl, rfl⟩ (by repeat' (first | exact Cover.nil | exact Take.here | apply Cover.cons | apply Take.there))
  · refine g_skip ?_
    refine g_qt ?_
    refine g_seq ?_
    refine g_seq ?_
    refine g_region ?_
    first | refine g_pure (p_loadO (by rfl) rfl (by first | (apply Has.own; (repeat' (first | exact Take.here | apply Take.there)); done) | exact Has.ro (by assumption)) (by rfl)) rfl ?_ | refine g_pure (p_loadN (by rfl) rfl (by first | (apply Has.own; (repeat' (first | exact Take.here | apply Take.there)); done) | exact Has.ro (by assumption)) (by first | rfl | assumption)) rfl ?_
    refine g_call (Hin := []) (Hr := ?hr1) (R := ?rr1) rfl rfl rfl ?hin1 ?hc1 ?hk1
    case hin1 => repeat' (first | exact Cover.nil | exact Take.here | apply Cover.cons | apply Take.there)
    case hc1 => intro ρ' hρ hR; exact check_ok n hn ca cc F (hF.mono hρ)
    rintro _ _ ⟨rfl, rfl⟩
    refine g_pure (p_assign rfl) rfl ?_
    refine g_nil ?_
    refine g_qt ?_
    refine g_seq ?_
    refine g_region ?_
    refine g_pure (p_move rfl) rfl ?_
    refine g_pure (p_neq rfl rfl) rfl ?_
    refine g_nil ?_
    refine g_qt ?_
    refine g_ifnd rfl (fun c => ?_) (fun c => ?_)
    · refine g_seq ?_
      refine g_region ?_
      refine g_pure (p_move rfl) rfl ?_
      refine g_pure (p_assign rfl) rfl ?_
      refine g_pure (p_assign rfl) rfl ?_
      refine g_pure (p_assign rfl) rfl ?_
      refine g_nil ?_
      refine g_qt ?_
      refine g_ret ?_
      refine g_qt_ret ?_
      refine g_ownnil (e := 4) (size := 1) ?_
      exact g_post (rs := [.tmp 4, .tmp 5, .tmp 6]) rfl (.tmp rfl (.tmp rfl (.tmp rfl .nil))) ⟨0, [], none, 0, check1 n F, .inr (.inl ⟨by omega, c, rfl, rfl, rfl⟩), rfl, rfl⟩ (by repeat' (first | exact Cover.nil | exact Take.here | apply Cover.cons | apply Take.there))
    · have hO' := hO c
      have hnn := check1_nonneg c
      obtain ⟨m, rfl⟩ : ∃ m : Nat, n = m := ⟨n.toNat, by omega⟩
      rw [Int.toNat_natCast] at hO'
      refine g_skip ?_
      refine g_qt ?_
      refine g_seq ?_
      refine g_region ?_
      first | refine g_pure (p_loadO (by rfl) rfl (by first | (apply Has.own; (repeat' (first | exact Take.here | apply Take.there)); done) | exact Has.ro (by assumption)) (by rfl)) rfl ?_ | refine g_pure (p_loadN (by rfl) rfl (by first | (apply Has.own; (repeat' (first | exact Take.here | apply Take.there)); done) | exact Has.ro (by assumption)) (by first | rfl | assumption)) rfl ?_
      refine g_call (Hin := []) (Hr := ?hr2) (R := ?rr2) rfl rfl rfl ?hin2 ?hc2 ?hk2
      case hin2 => repeat' (first | exact Cover.nil | exact Take.here | apply Cover.cons | apply Take.there)
      case hc2 => intro ρ' hρ hR; exact new_ok hO' ca cc (hF.mono hρ)
      rintro _ _ ⟨s, p, hp1, hp2, hp3, rfl, rfl⟩
      subst hp1
      subst hp3
      unfold I64 at hb
      refine g_pure (p_move rfl) rfl ?_
      refine g_call (Hin := [Sv s p (fun _ => none) [] (trues F (fun _ => none)) 0]) (Hr := ?hr3) (R := ?rr3) rfl rfl rfl ?hin3 ?hc3 ?hk3
      case hin3 => repeat' (first | exact Cover.nil | exact Take.here | apply Cover.cons | apply Take.there)
      case hc3 => intro ρ' hρ hR; exact search_ok hO' hp2 (Own2.ro hR.1) (hF.mono hρ) bud (by omega)
      rintro _ _ ⟨r, am, cm, hr, rfl, rfl⟩
      refine g_pure (p_move rfl) rfl ?_
      refine g_pure (p_extract rfl rfl) rfl ?_
      refine g_pure (p_extract rfl rfl) rfl ?_
      refine g_pure (p_assign rfl) rfl ?_
      refine g_pure (p_assign rfl) rfl ?_
      refine g_nil ?_
      refine g_qt ?_
      refine g_seq ?_
      refine g_region ?_
      refine g_pure (p_move rfl) rfl ?_
      refine g_pure (p_move rfl) rfl ?_
      refine g_pure (p_assign rfl) rfl ?_
      refine g_pure (p_assign rfl) rfl ?_
      refine g_pure (p_assign rfl) rfl ?_
      refine g_nil ?_
      refine g_qt ?_
      refine g_ret ?_
      exact g_post (rs := [.tmp 4, .tmp 5, .tmp 6]) rfl (.tmp rfl (.tmp rfl (.tmp rfl .nil))) ⟨ocode r, ocells p.n r, am, cm, 0, .inr (.inr ⟨by omega, c, rfl, r, by rw [Int.toNat_natCast]; exact hr, rfl, by rw [Int.toNat_natCast]⟩), rfl, rfl⟩ (by repeat' (first | exact Cover.nil | exact Take.here | apply Cover.cons | apply Take.there))
end Go.Proofs.Ytbpgblbhikeglaa
