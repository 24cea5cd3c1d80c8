/- Chapter 37: one clause examined; all of them. Conditions: none. -/
import Derived.Test.YtbpgblbhikeglaaS6
namespace Go.Proofs.Ytbpgblbhikeglaa
set_option linter.unusedVariables false
set_option linter.unusedSimpArgs false
set_option linter.unusedSectionVars false
open Go Go.Z Go.Z.Sat

theorem set_at {ρ : Nat → Obj → Prop} {s : Nat} {p : Sp} {F : Fm} (hO : Ok p.n F) (hm : p.m = F.length) (hU : RSl2 ρ p.ua (usesV p.n F)) {V : As} {T : List Int} {d : Nat} (hT : T.length + cnt p.n V = p.n)
    {a : Option Addr} {c : Nat} {ls : List Int} {bb : Bool} {V' : As} {T' : List Int} (h : setF V T ls = (bb, V', T')) (hls : RSl ρ 1 a ls.length (ls.map encI)) (hlen : ls.length ≤ 9223372036854775806) (hok : ∀ l ∈ ls, okL p.n l) :
    Con Try.prog ρ 28 #[.pointer (some ⟨s, 0, none⟩), .slice a ls.length c] [Sv s p V T (trues F V) d] (fun v H => v = .bool bb ∧ H = [Sv s p V' T' (trues F V') d]) := by
  have := set_ok (ρ := ρ) (s := s) hO hm hU V T d hT a c ls hls hlen hok
  rw [h] at this; exact this

def clF (V : As) (T : List Int) (c : Cl) : Bool × As × List Int :=
  if (exam V c).2 = false then (false, V, T) else if (exam V c).1 = 0 then (true, V, T) else (true, put V (exam V c).1, T ++ [(exam V c).1])

theorem clause_ok {ρ : Nat → Obj → Prop} {s : Nat} {p : Sp} {F : Fm} (hO : Ok p.n F) (hm : p.m = F.length) (hU : RSl2 ρ p.ua (usesV p.n F)) (hF : FmR ρ p.ca F) (V : As) (T : List Int) (d : Nat) (hT : T.length + cnt p.n V = p.n) (i : Nat) (hi : i < F.length) :
    Con Try.prog ρ 42 #[.pointer (some ⟨s, 0, none⟩), .int .i64 i] [Sv s p V T (trues F V) d] (fun v H => v = .bool (clF V T F[i]).1 ∧ H = [Sv s p (clF V T F[i]).2.1 (clF V T F[i]).2.2 (trues F (clF V T F[i]).2.1) d]) := by
  obtain ⟨b, off, cs, T1, fz, r1, r2, r3⟩ := hF.at (by omega)
  obtain ⟨ai, ci, x1', hrow⟩ := r3 i hi
  have x1 : cs[off + (i : Int).toNat * 1]? = some (.slice ai F[i].length ci) := x1'
  have hlits := hO.lits F[i] (List.getElem_mem hi)
  have hcl := hO.lens F[i] (List.getElem_mem hi)
  have hsp := exam_spec V F[i] fun m hm => (hlits m hm).1
  have hlen := hO.len
  refine con_intro Try.func42 Try.call42 rfl Try.ntmps42 rfl (L := [(0, _), (1, _)]) rfl fun w hh => ?_
  refine g_open .here ?_
  rintro _ ⟨va, vc, ta, tc, xa, xc, rfl⟩
  refine g_seq ?_
  refine g_region ?_
  refine g_pure (p_assign rfl) rfl ?_
  refine g_nil ?_
  refine g_qt ?_
  refine g_seq ?_
  refine g_region ?_
  refine g_pure (p_move rfl) rfl ?_
  refine g_pure (p_move rfl) rfl ?_
  refine g_pure (p_nilCheck rfl) rfl ?_
  refine g_pure (p_fieldAddr rfl) rfl ?_
  refine g_pure (p_fieldAddr rfl) rfl ?_
  refine g_pure (p_load (by rfl) rfl (by first | (apply Has.own; (repeat' (first | exact Take.here | apply Take.there)); done) | exact Has.ro (by assumption)) (by first | rfl | assumption)) rfl ?_
  refine g_pure (p_move rfl) rfl ?_
  refine g_pure (p_indexAddr rfl rfl (by omega) (fun _ => r1)) rfl ?_
  refine g_pure (p_load (by rfl) rfl (Has.ro r2) x1) rfl ?_
  refine sv_close (V := V) (T := T) (X := trues F V) (d := d) (by repeat' (first | exact Cover.nil | exact Take.here | apply Cover.cons | apply Take.there)) rfl rfl rfl rfl rfl rfl ?_
  refine g_call (Hin := []) (Hr := ?hr1) (R := ?rr1) rfl rfl rfl ?hin1 ?hc1 ?hk1
  case hin1 => repeat' (first | exact Cover.nil | exact Take.here | apply Cover.cons | apply Take.there)
  case hc1 => intro ρ' hρ hR; exact examine_ok hO.vars ai ci F[i] (hrow.mono hρ) (by omega) hlits hR.1
  rintro _ _ ⟨rfl, rfl⟩
  refine g_pure (p_move rfl) rfl ?_
  refine g_pure (p_extract rfl rfl) rfl ?_
  refine g_pure (p_extract rfl rfl) rfl ?_
  refine g_pure (p_assign rfl) rfl ?_
  refine g_pure (p_assign rfl) rfl ?_
  refine g_nil ?_
  refine g_qt ?_
  refine g_seq ?_
  refine g_region ?_
  refine g_pure (p_move rfl) rfl ?_
  refine g_pure (p_move rfl) rfl ?_
  rcases hsp with ⟨h1, h2⟩ | ⟨l, h1, h2, h3, h4⟩ | ⟨h1, h2⟩
  · have e : clF V T F[i] = (true, V, T) := by unfold clF; rw [h1]; rfl
    rw [h1]
    refine g_yes rfl rfl ?_
    refine g_pure (p_move rfl) rfl ?_
    refine g_yes rfl rfl ?_
    refine g_pure (p_eql rfl rfl) rfl ?_
    refine g_yes rfl rfl ?_
    refine g_pure (p_move rfl) rfl ?_
    refine g_no rfl rfl rfl rfl ?_
    refine g_no rfl rfl rfl rfl ?_
    refine g_no rfl rfl rfl rfl ?_
    refine g_no rfl rfl rfl rfl ?_
    refine g_yes rfl rfl ?_
    first | refine g_pure (p_pickt rfl rfl) rfl ?_ | refine g_pure (p_pickf rfl rfl) rfl ?_
    first | refine g_pure (p_pickt rfl rfl) rfl ?_ | refine g_pure (p_pickf rfl rfl) rfl ?_
    refine g_pure (p_assign rfl) rfl ?_
    refine g_nil ?_
    refine g_qt ?_
    refine g_ret ?_
    exact g_post (rs := [.tmp 4]) rfl (.tmp rfl .nil) ⟨by rw [e]; rfl, by rw [e]⟩ (by repeat' (first | exact Cover.nil | exact Take.here | apply Cover.cons | apply Take.there))
  · have hl0 := (hlits l h1).1
    have e : clF V T F[i] = (true, put V l, T ++ [l]) := by unfold clF; rw [h2]; simp [hl0]
    have es : setF V T [l] = (true, put V l, T ++ [l]) := by rw [setF_cons, h3]; rfl
    rw [h2]
    refine g_yes rfl rfl ?_
    refine g_pure (p_move rfl) rfl ?_
    refine g_yes rfl rfl ?_
    refine g_pure (p_eql rfl rfl) rfl ?_
    refine g_yes rfl rfl ?_
    refine g_pure (p_move rfl) rfl ?_
    rw [decide_eq_false hl0]
    refine g_yes rfl rfl ?_
    refine g_pure (p_move rfl) rfl ?_
    refine g_yes rfl rfl ?_
    refine g_pure (p_move rfl) rfl ?_
    refine g_yes rfl rfl ?_
    refine g_eff (e_bs (xs := [.tmp 26]) rfl rfl rfl (by rfl) (by rfl) rfl (by rfl)) rfl (fun _ _ => ?_)
    rintro ⟨b27, rfl, rfl⟩
    refine g_yes rfl rfl ?_
    refine g_call (Hin := [Sv s p V T (trues F V) d]) (Hr := ?hr2) (R := ?rr2) rfl rfl rfl ?hin2 ?hc2 ?hk2
    case hin2 => repeat' (first | exact Cover.nil | exact Take.here | apply Cover.cons | apply Take.there)
    case hc2 => intro ρ' hρ hR; exact set_at (ls := [l]) hO hm (hU.mono hρ) hT es (.of_blk hR.1.blk (by simp)) (by simp) (by simp; exact hlits l h1)
    rintro _ _ ⟨rfl, rfl⟩
    refine g_yes rfl rfl ?_
    first | refine g_pure (p_pickt rfl rfl) rfl ?_ | refine g_pure (p_pickf rfl rfl) rfl ?_
    first | refine g_pure (p_pickt rfl rfl) rfl ?_ | refine g_pure (p_pickf rfl rfl) rfl ?_
    refine g_pure (p_assign rfl) rfl ?_
    refine g_nil ?_
    refine g_qt ?_
    refine g_ret ?_
    exact g_post (rs := [.tmp 4]) rfl (.tmp rfl .nil) ⟨by rw [e]; rfl, by rw [e]⟩ (by repeat' (first | exact Cover.nil | exact Take.here | apply Cover.cons | apply Take.there))
  · have e : clF V T F[i] = (false, V, T) := by unfold clF; rw [h1]; rfl
    rw [h1]
    refine g_no rfl rfl rfl rfl ?_
    refine g_no rfl rfl rfl rfl ?_
    refine g_no rfl rfl rfl rfl ?_
    refine g_nou rfl rfl rfl ?_
    refine g_nou rfl rfl rfl ?_
    refine g_nou rfl rfl rfl ?_
    refine g_nou rfl rfl rfl ?_
    refine g_no rfl rfl rfl rfl ?_
    first | refine g_pure (p_pickt rfl rfl) rfl ?_ | refine g_pure (p_pickf rfl rfl) rfl ?_
    refine g_pure (p_assign rfl) rfl ?_
    refine g_nil ?_
    refine g_qt ?_
    refine g_ret ?_
    exact g_post (rs := [.tmp 4]) rfl (.tmp rfl .nil) ⟨by rw [e]; rfl, by rw [e]⟩ (by repeat' (first | exact Cover.nil | exact Take.here | apply Cover.cons | apply Take.there))
end Go.Proofs.Ytbpgblbhikeglaa
