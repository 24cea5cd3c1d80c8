/- Chapter 16: StreamDelays. Conditions: none. -/
import Derived.Test.YtceecdjckhbncaaD1
namespace Go.Proofs.Ytceecdjckhbncaa
set_option linter.unusedVariables false
set_option linter.unusedSimpArgs false
set_option linter.unusedSectionVars false
open Go Go.Z Go.Z.Val

/-- reading a stream -/
theorem rd_cells {H : Type} {enc : TypeId × Value → H} {W : World} {cs : List Value} (h : Rdx enc Try.prog W 22 cs) :
    ∃ (a : Option Addr) (cap : Nat) (l : List Ce), cs = [.slice a l.length cap] ∧ l.length ≤ cap ∧ cap ≤ maxLen ∧ (∀ x ∈ l, C64 x) ∧ RSl (Old W) 2 a l.length (l.flatMap encC) := by
  refine rd_list (fun x : Ce => C64 x) encC Try.underlying22 (size := 2) (by kernel_rfl) (by decide) (fun c _ hc => ?_) h
  obtain ⟨hl, hf⟩ := rd_struct Try.underlying31 hc
  have h0 := hf 0 _ rfl
  have h1 := hf 1 _ rfl
  have hl2 : c.length = 2 := hl
  match c, hl2 with
  | [u, v], _ =>
    have h0' : Rdx enc Try.prog W 3 [u] := h0
    have h1' : Rdx enc Try.prog W 3 [v] := h1
    obtain ⟨x, e, wx⟩ := rd_int Try.underlying3 h0'
    cases e
    obtain ⟨y, e, wy⟩ := rd_int Try.underlying3 h1'
    cases e
    exact ⟨(x, y), rfl, wf_i64 wx, wf_i64 wy⟩

theorem delays_ok {ρ : Nat → Obj → Prop} {a b : List Ce} {aa ba : Option Addr} {ac bc : Nat} (ha : RSl ρ 2 aa a.length (a.flatMap encC)) (hb : RSl ρ 2 ba b.length (b.flatMap encC)) :
    Con Try.prog ρ 3 #[.slice aa a.length ac, .slice ba b.length bc] [] (fun v _ => v = .bool true) := by
  refine con_intro Try.func3 Try.call3 rfl Try.ntmps3 rfl (L := [(0, _), (1, _)]) rfl fun w hh => ?_
  refine g_seq ?_
  refine g_region ?_
  refine g_pure (p_assign rfl) rfl ?_
  refine g_nil ?_
  refine g_qt ?_
  refine g_seq ?_
  refine g_seq ?_
  refine g_region ?_
  refine g_pure (p_move rfl) rfl ?_
  refine g_pure (p_move rfl) rfl ?_
  refine g_eff (e_bs (xs := [.tmp 5, .tmp 6]) rfl rfl rfl (by rfl) (by rfl) rfl (by rfl)) rfl (fun _ _ => ?_)
  rintro ⟨b7, rfl, rfl⟩
  refine g_call (Hin := []) (Hr := ?hr1) (R := ?rr1) rfl rfl rfl ?hin1 ?hc1 ?hk1
  case hin1 => repeat' (first | exact Cover.nil | exact Take.here | apply Cover.cons | apply Take.there)
  case hc1 => intro ρ' hρ hR; exact long_ok (l := [a, b]) (SlS.of2 hR.1.blk (ha.mono hρ) (hb.mono hρ))
  rintro _ _ ⟨lg, rfl, rfl, hlg⟩
  refine g_nil ?_
  refine g_qt ?_
  cases lg with
  | true =>
    refine g_ift rfl ?_
    refine g_seq ?_
    refine g_region ?_
    refine g_call (Hin := []) (Hr := ?hr2) (R := ?rr2) rfl rfl rfl ?hin2 ?hc2 ?hk2
    case hin2 => repeat' (first | exact Cover.nil | exact Take.here | apply Cover.cons | apply Take.there)
    case hc2 => intro ρ' hρ hR; exact lives_ok
    rintro _ _ ⟨rfl, rfl⟩
    refine g_pure (p_assign rfl) rfl ?_
    refine g_nil ?_
    refine g_qt ?_
    refine g_ret ?_
    refine g_qt_ret ?_
    exact g_post (Ho := []) (rs := [.tmp 4]) rfl (.tmp rfl .nil) rfl .nil
  | false =>
    obtain ⟨-, hlens⟩ := hlg rfl
    have hla := hlens a (by simp)
    have hlb := hlens b (by simp)
    have hp : (PreL a).length ≤ 1000000 := by simp [PreL]; omega
    have hq : (ArrowL a b).length ≤ 1000000 := by simp [ArrowL]; omega
    have hr : (FbyL a b).length ≤ 1000000 := by simp [FbyL]; omega
    refine g_iff rfl ?_
    refine g_skip ?_
    refine g_qt ?_
    refine g_seq ?_
    refine g_region ?_
    refine g_pure (p_move rfl) rfl ?_
    refine g_call (Hin := []) (Hr := ?hr3) (R := ?rr3) rfl rfl rfl ?hin3 ?hc3 ?hk3
    case hin3 => repeat' (first | exact Cover.nil | exact Take.here | apply Cover.cons | apply Take.there)
    case hc3 => intro ρ' hρ hR; exact pre_ok (a := a) (ha.mono hρ) (by omega)
    rintro _ _ ⟨o1, c1, rfl, rfl⟩
    refine g_pure (p_move rfl) rfl ?_
    refine g_call (Hin := []) (Hr := ?hr4) (R := ?rr4) rfl rfl rfl ?hin4 ?hc4 ?hk4
    case hin4 => repeat' (first | exact Cover.nil | exact Take.here | apply Cover.cons | apply Take.there)
    case hc4 => intro ρ' hρ hR; exact dpre_ok (a := a) (ha.mono hρ) (by omega)
    rintro _ _ ⟨o2, c2, rfl, rfl⟩
    refine g_call (Hin := []) (Hr := ?hr5) (R := ?rr5) rfl rfl rfl ?hin5 ?hc5 ?hk5
    case hin5 => repeat' (first | exact Cover.nil | exact Take.here | apply Cover.cons | apply Take.there)
    case hc5 => intro ρ' hρ hR; exact same_ok (xs := PreL a) (ys := PreL a) rfl rfl (RSl.of_own hR.2.1) (RSl.of_own hR.1) hp hp
    rintro _ _ ⟨rfl, rfl⟩
    rw [decide_eq_true rfl]
    refine g_pure (p_move rfl) rfl ?_
    refine g_yes rfl rfl ?_
    refine g_pure (p_move rfl) rfl ?_
    refine g_yes rfl rfl ?_
    refine g_pure (p_move rfl) rfl ?_
    refine g_yes rfl rfl ?_
    refine g_call (Hin := []) (Hr := ?hr6) (R := ?rr6) rfl rfl rfl ?hin6 ?hc6 ?hk6
    case hin6 => repeat' (first | exact Cover.nil | exact Take.here | apply Cover.cons | apply Take.there)
    case hc6 => intro ρ' hρ hR; exact arrow_ok (a := a) (b := b) (ha.mono hρ) (hb.mono hρ) (by omega)
    rintro _ _ ⟨o3, c3, rfl, rfl⟩
    refine g_yes rfl rfl ?_
    refine g_pure (p_move rfl) rfl ?_
    refine g_yes rfl rfl ?_
    refine g_pure (p_move rfl) rfl ?_
    refine g_yes rfl rfl ?_
    refine g_call (Hin := []) (Hr := ?hr7) (R := ?rr7) rfl rfl rfl ?hin7 ?hc7 ?hk7
    case hin7 => repeat' (first | exact Cover.nil | exact Take.here | apply Cover.cons | apply Take.there)
    case hc7 => intro ρ' hρ hR; exact darrow_ok (a := a) (b := b) (ha.mono hρ) (hb.mono hρ) (by omega) (by omega)
    rintro _ _ ⟨o4, c4, rfl, rfl⟩
    refine g_yes rfl rfl ?_
    refine g_call (Hin := []) (Hr := ?hr8) (R := ?rr8) rfl rfl rfl ?hin8 ?hc8 ?hk8
    case hin8 => repeat' (first | exact Cover.nil | exact Take.here | apply Cover.cons | apply Take.there)
    case hc8 => intro ρ' hρ hR; exact same_ok (xs := ArrowL a b) (ys := ArrowL a b) rfl rfl (RSl.of_own hR.2.1) (RSl.of_own hR.1) hq hq
    rintro _ _ ⟨rfl, rfl⟩
    rw [decide_eq_true rfl]
    first | refine g_pure (p_pickt rfl rfl) rfl ?_ | refine g_pure (p_pickf rfl rfl) rfl ?_
    refine g_pure (p_move rfl) rfl ?_
    refine g_yes rfl rfl ?_
    refine g_pure (p_move rfl) rfl ?_
    refine g_yes rfl rfl ?_
    refine g_pure (p_move rfl) rfl ?_
    refine g_yes rfl rfl ?_
    refine g_call (Hin := []) (Hr := ?hr9) (R := ?rr9) rfl rfl rfl ?hin9 ?hc9 ?hk9
    case hin9 => repeat' (first | exact Cover.nil | exact Take.here | apply Cover.cons | apply Take.there)
    case hc9 => intro ρ' hρ hR; exact fby_ok (a := a) (b := b) (ha.mono hρ) (hb.mono hρ) (by omega)
    rintro _ _ ⟨o5, c5, rfl, rfl⟩
    refine g_yes rfl rfl ?_
    refine g_pure (p_move rfl) rfl ?_
    refine g_yes rfl rfl ?_
    refine g_pure (p_move rfl) rfl ?_
    refine g_yes rfl rfl ?_
    refine g_call (Hin := []) (Hr := ?hr10) (R := ?rr10) rfl rfl rfl ?hin10 ?hc10 ?hk10
    case hin10 => repeat' (first | exact Cover.nil | exact Take.here | apply Cover.cons | apply Take.there)
    case hc10 => intro ρ' hρ hR; exact dfby_ok (a := a) (b := b) (ha.mono hρ) (hb.mono hρ) (by omega) (by omega)
    rintro _ _ ⟨o6, c6, rfl, rfl⟩
    refine g_yes rfl rfl ?_
    refine g_call (Hin := []) (Hr := ?hr11) (R := ?rr11) rfl rfl rfl ?hin11 ?hc11 ?hk11
    case hin11 => repeat' (first | exact Cover.nil | exact Take.here | apply Cover.cons | apply Take.there)
    case hc11 => intro ρ' hρ hR; exact same_ok (xs := FbyL a b) (ys := FbyL a b) rfl rfl (RSl.of_own hR.2.1) (RSl.of_own hR.1) hr hr
    rintro _ _ ⟨rfl, rfl⟩
    rw [decide_eq_true rfl]
    first | refine g_pure (p_pickt rfl rfl) rfl ?_ | refine g_pure (p_pickf rfl rfl) rfl ?_
    refine g_pure (p_move rfl) rfl ?_
    refine g_yes rfl rfl ?_
    refine g_call (Hin := []) (Hr := ?hr12) (R := ?rr12) rfl rfl rfl ?hin12 ?hc12 ?hk12
    case hin12 => repeat' (first | exact Cover.nil | exact Take.here | apply Cover.cons | apply Take.there)
    case hc12 => intro ρ' hρ hR; exact lives_ok
    rintro _ _ ⟨rfl, rfl⟩
    first | refine g_pure (p_pickt rfl rfl) rfl ?_ | refine g_pure (p_pickf rfl rfl) rfl ?_
    refine g_pure (p_assign rfl) rfl ?_
    refine g_nil ?_
    refine g_qt ?_
    refine g_ret ?_
    exact g_post (Ho := []) (rs := [.tmp 4]) rfl (.tmp rfl .nil) rfl .nil
end Go.Proofs.Ytceecdjckhbncaa
