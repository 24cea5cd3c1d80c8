/- Chapter 37: SatFirst, SatBudgets, SatFollows: the walks. Conditions: none. -/
import Derived.Test.YtbpgblbhikeglaaV6
namespace Go.Z.Sat
set_option linter.unusedVariables false
set_option linter.unusedSimpArgs false
set_option linter.unusedSectionVars false
open Go Go.Z Go.Proofs.Ytbpgblbhikeglaa
theorem shl_nat {m : Nat} (h : m ≤ 9) : IntKind.i64.wrap (1 * 2 ^ (min ((m : Nat) : Int).toNat IntKind.i64.bits)) = ((2 ^ m : Nat) : Int) := by
  have : m = 0 ∨ m = 1 ∨ m = 2 ∨ m = 3 ∨ m = 4 ∨ m = 5 ∨ m = 6 ∨ m = 7 ∨ m = 8 ∨ m = 9 := by omega
  rcases this with rfl | rfl | rfl | rfl | rfl | rfl | rfl | rfl | rfl | rfl <;> rfl
theorem pow_le9 {m : Nat} (h : m ≤ 9) : 2 ^ m ≤ 512 := Nat.pow_le_pow_right (n := 2) (by decide) h
theorem UnS.i64 {n : Int} {F : Fm} {ls out : List Int} {ok : Bool} {e : Int} (h : UnS n F ls out ok e) : ∀ l ∈ out, I64 l := fun l hl => by
  rcases h with ⟨_, h, _⟩ | ⟨_, _, h, _⟩ | ⟨hc, _, _, r, _, h, _⟩
  · rw [h] at hl; cases hl
  · rw [h] at hl; cases hl
  · cases r with
    | none => rw [h] at hl; cases hl
    | some b =>
      rw [h] at hl
      have h1 := ulits_ok b l hl
      have h2 := check1_nonneg hc
      exact ⟨by have := h1.2; omega, by have := h1.2; omega⟩
theorem UnS.check {n : Int} {F : Fm} {ls out : List Int} {ok : Bool} (h : UnS n F ls out ok 0) : check1 n F = 0 := by
  rcases h with ⟨h1, _, _, h2⟩ | ⟨_, _, _, _, h2⟩ | ⟨hc, _⟩
  · exact h2.symm
  · cases h2
  · exact hc
theorem budgets_ok {n : Int} {F : Fm} {x y : Int} (hO : check1 n F = 0 → okF n.toNat F) (hx : 0 ≤ x) (hxy : x ≤ y) {c1 c2 e1 e2 : Int} {x1 x2 : List Value} (h : Sol n F x c1 x1 e1) (k : Sol n F y c2 x2 e2) :
    e1 = e2 ∧ (c1 = 0 → x1 = []) ∧ (c1 ≠ 0 → c1 = c2 ∧ x1 = x2) ∧ (c2 = 1 → ∃ xs : List Bool, x2 = xs.map encB ∧ xs.length ≤ 262144 ∧ rightB n F xs = true) := by
  rcases h with ⟨h1, _⟩ | ⟨_, h2, rfl, rfl, rfl⟩ | ⟨_, h2, rfl, r, h3, rfl, rfl⟩
  · omega
  · rcases k with ⟨k1, _⟩ | ⟨_, k2, rfl, rfl, rfl⟩ | ⟨_, k2, _⟩
    · omega
    · exact ⟨rfl, fun _ => rfl, fun h => absurd rfl h, fun h => by cases h⟩
    · exact absurd k2 h2
  · rcases k with ⟨k1, _⟩ | ⟨_, k2, _⟩ | ⟨_, k2, rfl, s, k3, rfl, rfl⟩
    · omega
    · exact absurd h2 k2
    · have hnn := check1_nonneg h2
      have hF := hO h2
      refine ⟨rfl, fun h => ?_, fun h => ?_, fun h => ?_⟩
      · cases r with
        | unk => rfl
        | sat b => cases h
        | uns => cases h
      · have hr : r ≠ .unk := fun e => by subst e; exact h rfl
        have := (h3.more hxy hr hx).unique hF k3
        subst this
        exact ⟨rfl, rfl⟩
      · cases s with
        | unk => cases h
        | uns => cases h
        | sat b =>
          refine ⟨mods n.toNat b, mods_cells _ b, by rw [mods_len]; omega, ?_⟩
          have e : n = ((n.toNat : Nat) : Int) := by omega
          have h4 := (right_iff (n := n.toNat) hF (by rw [← e]; exact h2) (mods_len n.toNat b)).2 (Mod_congr hF (fun v hv1 hv2 => (mods_at b hv1 hv2).symm) (satF_Mod (n := n.toNat) k3.satF))
          rwa [← e] at h4
end Go.Z.Sat
namespace Go.Proofs.Ytbpgblbhikeglaa
open Go Go.Z Go.Z.Sat

theorem sfirst_ok {ρ : Nat → Obj → Prop} {n : Int} {ca : Option Addr} {cc : Nat} {F : Fm} (hF : FmI ρ n ca F) :
    Con Try.prog ρ 5 #[.agg #[.int .i64 n, .slice ca F.length cc]] [] (fun v _ => v = .bool true) := by
  refine con_intro Try.func5 Try.call5 rfl Try.ntmps5 rfl (L := [(0, _)]) rfl fun w hh => ?_
  refine g_seq ?_
  refine g_region ?_
  refine g_eff (e_box rfl (by rfl)) rfl (fun _ _ => ?_)
  rintro ⟨b1, rfl, rfl⟩
  refine g_pure (p_assign rfl) rfl ?_
  refine g_nil ?_
  refine g_qt ?_
  refine g_seq ?_
  refine g_seq ?_
  refine g_join (fun y : Bool => [(1, .pointer (some ⟨b1, 0, none⟩)), (19, .bool y)]) (fun _ => [Blk b1 (.cells [.int .i64 n, .slice ca F.length cc].toArray 24 (0, 0))]) (fun y => y = false → Light n F 0 ∧ n ≤ 9 ∧ check1 n F = 0) ?_ ?_
  · refine g_region ?_
    first | refine g_pure (p_loadO (by rfl) rfl (by first | (apply Has.own; (repeat' (first | exact Take.here | apply Take.there)); done) | exact Has.ro (by assumption)) (by rfl)) rfl ?_ | refine g_pure (p_loadN (by rfl) rfl (by first | (apply Has.own; (repeat' (first | exact Take.here | apply Take.there)); done) | exact Has.ro (by assumption)) (by first | rfl | assumption)) rfl ?_
    refine g_call (Hin := []) (Hr := ?hr1) (R := ?rr1) rfl rfl rfl ?hin1 ?hc1 ?hk1
    case hin1 => repeat' (first | exact Cover.nil | exact Take.here | apply Cover.cons | apply Take.there)
    case hc1 => intro ρ' hρ hR; exact heavy_ok (hF.mono hρ) 0
    rintro _ _ ⟨b, rfl, rfl, hL⟩
    refine g_pure (p_move rfl) rfl ?_
    cases b with
    | true =>
      refine g_no rfl rfl rfl rfl ?_
      refine g_no rfl rfl rfl rfl ?_
      refine g_no rfl rfl rfl rfl ?_
      first | refine g_pure (p_pickt rfl rfl) rfl ?_ | refine g_pure (p_pickf rfl rfl) rfl ?_
      refine g_pure (p_move rfl) rfl ?_
      refine g_no rfl rfl rfl rfl ?_
      refine g_no rfl rfl rfl rfl ?_
      refine g_no rfl rfl rfl rfl ?_
      first | refine g_pure (p_pickt rfl rfl) rfl ?_ | refine g_pure (p_pickf rfl rfl) rfl ?_
      refine g_nil ?_
      refine g_qn ?_
      exact g_joined true (by repeat (first | exact trivial | refine ⟨by rfl, ?_⟩)) (by repeat' (first | exact Cover.nil | exact Take.here | apply Cover.cons | apply Take.there)) fun h => by cases h
    | false =>
      have hL := hL rfl
      refine g_yes rfl rfl ?_
      refine g_pure (p_fieldAddr rfl) rfl ?_
      refine g_yes rfl rfl ?_
      refine g_pure (p_load (by rfl) rfl (by first | (apply Has.own; (repeat' (first | exact Take.here | apply Take.there)); done) | exact Has.ro (by assumption)) (by first | rfl | assumption)) rfl ?_
      refine g_yes rfl rfl ?_
      refine g_pure (p_gtr rfl rfl) rfl ?_
      first | refine g_pure (p_pickt rfl rfl) rfl ?_ | refine g_pure (p_pickf rfl rfl) rfl ?_
      refine g_pure (p_move rfl) rfl ?_
      refine g_splitd rfl rfl (fun y2 => ?_) (fun y2 => ?_)
      · refine g_no rfl rfl rfl rfl ?_
        refine g_no rfl rfl rfl rfl ?_
        refine g_no rfl rfl rfl rfl ?_
        first | refine g_pure (p_pickt rfl rfl) rfl ?_ | refine g_pure (p_pickf rfl rfl) rfl ?_
        refine g_nil ?_
        refine g_qn ?_
        exact g_joined true (by repeat (first | exact trivial | refine ⟨by rfl, ?_⟩)) (by repeat' (first | exact Cover.nil | exact Take.here | apply Cover.cons | apply Take.there)) fun h => by cases h
      · refine g_yes rfl rfl ?_
        first | refine g_pure (p_loadO (by rfl) rfl (by first | (apply Has.own; (repeat' (first | exact Take.here | apply Take.there)); done) | exact Has.ro (by assumption)) (by rfl)) rfl ?_ | refine g_pure (p_loadN (by rfl) rfl (by first | (apply Has.own; (repeat' (first | exact Take.here | apply Take.there)); done) | exact Has.ro (by assumption)) (by first | rfl | assumption)) rfl ?_
        refine g_yes rfl rfl ?_
        refine g_call (Hin := []) (Hr := ?hr2) (R := ?rr2) rfl rfl rfl ?hin2 ?hc2 ?hk2
        case hin2 => repeat' (first | exact Cover.nil | exact Take.here | apply Cover.cons | apply Take.there)
        case hc2 => intro ρ' hρ hR; exact check_ok n hF.vars ca cc F (hF.fm.mono hρ)
        rintro _ _ ⟨rfl, rfl⟩
        refine g_yes rfl rfl ?_
        refine g_pure (p_neq rfl rfl) rfl ?_
        first | refine g_pure (p_pickt rfl rfl) rfl ?_ | refine g_pure (p_pickf rfl rfl) rfl ?_
        refine g_nil ?_
        refine g_qn ?_
        exact g_joined (!decide (check1 n F = 0)) (by repeat (first | exact trivial | refine ⟨by rfl, ?_⟩)) (by repeat' (first | exact Cover.nil | exact Take.here | apply Cover.cons | apply Take.there)) fun h => ⟨hL, by omega, by simpa using h⟩
  intro y hL
  refine g_qt ?_
  cases y with
  | true =>
    refine g_ift rfl ?_
    refine g_seq ?_
    refine g_region ?_
    refine g_call (Hin := []) (Hr := ?hr3) (R := ?rr3) rfl rfl rfl ?hin3 ?hc3 ?hk3
    case hin3 => repeat' (first | exact Cover.nil | exact Take.here | apply Cover.cons | apply Take.there)
    case hc3 => intro ρ' hρ hR; exact awake_ok
    rintro _ _ ⟨rfl, rfl⟩
    refine g_pure (p_assign rfl) rfl ?_
    refine g_nil ?_
    refine g_qt ?_
    refine g_ret ?_
    refine g_qt_ret ?_
    exact g_post (Ho := []) (rs := [.tmp 2]) rfl (.tmp rfl .nil) rfl .nil
  | false =>
    obtain ⟨hL, hn9, hc⟩ := hL rfl
    have hO := hL.ok hc
    have hnn := check1_nonneg hc
    obtain ⟨m, rfl⟩ : ∃ m : Nat, n = m := ⟨n.toNat, by omega⟩
    rw [Int.toNat_natCast] at hO
    have hm9 : m ≤ 9 := by omega
    have hp9 := pow_le9 hm9
    have hshl := shl_nat hm9
    refine g_iff rfl ?_
    refine g_skip ?_
    refine g_qt ?_
    refine g_seq ?_
    refine g_region ?_
    first | refine g_pure (p_loadO (by rfl) rfl (by first | (apply Has.own; (repeat' (first | exact Take.here | apply Take.there)); done) | exact Has.ro (by assumption)) (by rfl)) rfl ?_ | refine g_pure (p_loadN (by rfl) rfl (by first | (apply Has.own; (repeat' (first | exact Take.here | apply Take.there)); done) | exact Has.ro (by assumption)) (by first | rfl | assumption)) rfl ?_
    refine g_call (Hin := []) (Hr := ?hr4) (R := ?rr4) rfl rfl rfl ?hin4 ?hc4 ?hk4
    case hin4 => repeat' (first | exact Cover.nil | exact Take.here | apply Cover.cons | apply Take.there)
    case hc4 => intro ρ' hρ hR; exact solve_ok m hF.vars ca cc F (hF.fm.mono hρ) (fun h => hL.ok h) 512 ⟨by decide, by decide⟩
    rintro _ _ ⟨c1, x1, a1, k1, e1, hS1, rfl, rfl⟩
    have hSol : e1 = 0 ∧ ∃ r, Sat.Reach F m 512 (fun _ => none) [] 0 r ∧ c1 = ocode r ∧ x1 = ocells m r := by
      rcases hS1 with ⟨h1, _⟩ | ⟨_, h1, _⟩ | ⟨_, _, h1, r, h2, h3, h4⟩
      · omega
      · exact absurd hc h1
      · rw [Int.toNat_natCast] at h2 h4
        exact ⟨h1, r, h2, h3, h4⟩
    obtain ⟨rfl, r, hr, rfl, rfl⟩ := hSol
    obtain ⟨f1, f2, f3⟩ := first_ok hO.lits hc hm9 hr
    have hne0 : ocode r ≠ 0 := fun h => by cases r <;> first | exact f1 rfl | cases h
    refine g_pure (p_move rfl) rfl ?_
    refine g_pure (p_extract rfl rfl) rfl ?_
    refine g_pure (p_extract rfl rfl) rfl ?_
    refine g_pure (p_extract rfl rfl) rfl ?_
    refine g_pure (p_assign rfl) rfl ?_
    refine g_pure (p_assign rfl) rfl ?_
    refine g_pure (p_assign rfl) rfl ?_
    refine g_nil ?_
    refine g_qt ?_
    refine g_seq ?_
    refine g_seq ?_
    refine g_region ?_
    refine g_pure (p_move rfl) rfl ?_
    refine g_pure (p_neq rfl rfl) rfl ?_
    refine g_pure (p_move rfl) rfl ?_
    refine g_yes rfl rfl ?_
    refine g_pure (p_move rfl) rfl ?_
    refine g_yes rfl rfl ?_
    refine g_pure (p_eqlF rfl rfl hne0) rfl ?_
    first | refine g_pure (p_pickt rfl rfl) rfl ?_ | refine g_pure (p_pickf rfl rfl) rfl ?_
    refine g_nil ?_
    refine g_qt ?_
    refine g_iff rfl ?_
    refine g_skip ?_
    refine g_qt ?_
    refine g_seq ?_
    refine g_seq ?_
    refine g_region ?_
    refine g_pure (p_assign rfl) rfl ?_
    refine g_nil ?_
    refine g_qt ?_
    refine g_block ?_
    refine g_loop (fun k : Nat => [(1, .pointer (some ⟨b1, 0, none⟩)), (3, .int .i64 (ocode r)), (4, .slice a1 (ocells m r).length k1), (6, .int .i64 k)])
      (fun _ => [OwnSl 4 1 a1 (ocells m r).length k1 (ocells m r), Blk b1 (.cells [.int .i64 m, .slice ca F.length cc].toArray 24 (0, 0))]) (fun k => k ≤ 2 ^ m ∧ ∀ j, j < k → rightB m F (mlist m j) = false) (fun k => 2 ^ m - k) 0 ⟨Nat.zero_le _, fun j h => absurd h (Nat.not_lt_zero j)⟩ (by repeat (first | exact trivial | refine ⟨by rfl, ?_⟩)) (by repeat' (first | exact Cover.nil | exact Take.here | apply Cover.cons | apply Take.there)) ?_
    rintro k ⟨hk, hno⟩
    refine g_seq ?_
    refine g_seq ?_
    refine g_region ?_
    refine g_pure (p_move rfl) rfl ?_
    refine g_pure (p_fieldAddr rfl) rfl ?_
    refine g_pure (p_load (by rfl) rfl (by first | (apply Has.own; (repeat' (first | exact Take.here | apply Take.there)); done) | exact Has.ro (by assumption)) (by first | rfl | assumption)) rfl ?_
    refine g_pure (p_shl rfl rfl (by omega)) rfl ?_
    refine g_pure (p_lss rfl rfl) rfl ?_
    refine g_nil ?_
    refine g_qt ?_
    refine g_ifd rfl (fun q => ?_) (fun q => ?_)
    · rw [hshl] at q
      have hkl : k < 2 ^ m := by omega
      refine g_skip ?_
      refine g_qt ?_
      refine g_seq ?_
      refine g_block ?_
      refine g_seq ?_
      refine g_region ?_
      refine g_pure (p_fieldAddr rfl) rfl ?_
      refine g_pure (p_load (by rfl) rfl (by first | (apply Has.own; (repeat' (first | exact Take.here | apply Take.there)); done) | exact Has.ro (by assumption)) (by first | rfl | assumption)) rfl ?_
      refine g_pure (p_move rfl) rfl ?_
      refine g_call (Hin := []) (Hr := ?hr5) (R := ?rr5) rfl rfl rfl ?hin5 ?hc5 ?hk5
      case hin5 => repeat' (first | exact Cover.nil | exact Take.here | apply Cover.cons | apply Take.there)
      case hc5 => intro ρ' hρ hR; exact lmodel_ok m k (by omega) (by omega)
      rintro _ _ ⟨am, cm, rfl, rfl⟩
      refine g_pure (p_assign rfl) rfl ?_
      refine g_nil ?_
      refine g_qt ?_
      refine g_seq ?_
      refine g_region ?_
      first | refine g_pure (p_loadO (by rfl) rfl (by first | (apply Has.own; (repeat' (first | exact Take.here | apply Take.there)); done) | exact Has.ro (by assumption)) (by rfl)) rfl ?_ | refine g_pure (p_loadN (by rfl) rfl (by first | (apply Has.own; (repeat' (first | exact Take.here | apply Take.there)); done) | exact Has.ro (by assumption)) (by first | rfl | assumption)) rfl ?_
      refine g_pure (p_move rfl) rfl ?_
      refine g_call (Hin := []) (Hr := ?hr6) (R := ?rr6) rfl rfl rfl ?hin6 ?hc6 ?hk6
      case hin6 => repeat' (first | exact Cover.nil | exact Take.here | apply Cover.cons | apply Take.there)
      case hc6 => intro ρ' hρ hR; exact right_ok (xs := mlist m k) (hF.mono hρ) (fun h => hL.ok h) (RSl.of_own hR.1) (by rw [mlist_len]; omega)
      rintro _ _ ⟨rfl, rfl⟩
      refine g_nil ?_
      refine g_qt ?_
      cases hrb : rightB m F (mlist m k) with
      | true =>
        obtain ⟨b, rfl, hb⟩ := f2 k hkl hno hrb
        have hoc : ocells m (.sat b) = (mods m b).map encB := mods_cells m b
        refine g_ift rfl ?_
        refine g_seq ?_
        refine g_region ?_
        refine g_pure (p_move rfl) rfl ?_
        refine g_pure (p_eql rfl rfl) rfl ?_
        refine g_pure (p_move rfl) rfl ?_
        refine g_yes rfl rfl ?_
        refine g_pure (p_move rfl) rfl ?_
        refine g_yes rfl rfl ?_
        refine g_pure (p_move rfl) rfl ?_
        refine g_yes rfl rfl ?_
        refine g_call (Hin := []) (Hr := ?hr7) (R := ?rr7) rfl rfl rfl ?hin7 ?hc7 ?hk7
        case hin7 => repeat' (first | exact Cover.nil | exact Take.here | apply Cover.cons | apply Take.there)
        case hc7 => intro ρ' hρ hR; exact bools_ok (ka := (ocells m (.sat b)).length) (xs := mods m b) (ys := mlist m k) (by rw [hoc]; simp) rfl (by rw [← hoc]; exact RSl.of_own (Take.ro (A := OwnSl 4 1 a1 (ocells m (.sat b)).length k1 (ocells m (.sat b))) (by repeat' (first | exact Take.here | apply Take.there)) hR)) (RSl.of_own (Take.ro (A := OwnSl 4 1 am (mlist m k).length cm ((mlist m k).map encB)) (by repeat' (first | exact Take.here | apply Take.there)) hR)) (by rw [mods_len]; omega) (by rw [mlist_len]; omega)
        rintro _ _ ⟨rfl, rfl⟩
        rw [decide_eq_true hb]
        first | refine g_pure (p_pickt rfl rfl) rfl ?_ | refine g_pure (p_pickf rfl rfl) rfl ?_
        refine g_pure (p_move rfl) rfl ?_
        refine g_yes rfl rfl ?_
        refine g_call (Hin := []) (Hr := ?hr8) (R := ?rr8) rfl rfl rfl ?hin8 ?hc8 ?hk8
        case hin8 => repeat' (first | exact Cover.nil | exact Take.here | apply Cover.cons | apply Take.there)
        case hc8 => intro ρ' hρ hR; exact awake_ok
        rintro _ _ ⟨rfl, rfl⟩
        first | refine g_pure (p_pickt rfl rfl) rfl ?_ | refine g_pure (p_pickf rfl rfl) rfl ?_
        refine g_pure (p_assign rfl) rfl ?_
        refine g_nil ?_
        refine g_qt ?_
        refine g_ret ?_
        refine g_qb_ret ?_
        refine g_qt_ret ?_
        refine g_qn_ret ?_
        refine g_qb_ret ?_
        refine g_qt_ret ?_
        exact g_post (Ho := []) (rs := [.tmp 2]) rfl (.tmp rfl .nil) rfl .nil
      | false =>
        refine g_iff rfl ?_
        refine g_skip ?_
        refine g_qb ?_
        refine g_qt ?_
        refine g_region ?_
        refine g_pure (p_move rfl) rfl ?_
        first | refine g_pure (p_addi rfl rfl (by omega)) rfl ?_ | refine g_pure (p_add rfl rfl) rfl ?_
        refine g_pure (p_assign rfl) rfl ?_
        refine g_nil ?_
        refine g_qn ?_
        refine g_next (k + 1) (by repeat (first | exact trivial | refine ⟨by rfl, ?_⟩)) (by repeat' (first | exact Cover.nil | exact Take.here | apply Cover.cons | apply Take.there)) ⟨hkl, fun j hj => ?_⟩ (by omega)
        by_cases e : j = k
        · rw [e]; exact hrb
        · exact hno j (by omega)
    · rw [hshl] at q
      have hke : k = 2 ^ m := by omega
      have hr2 := f3 fun j hj => hno j (by omega)
      subst hr2
      refine g_exit ?_
      refine g_qt_exit ?_
      refine g_qn_exit ?_
      refine g_qb_exit ?_
      refine g_qt ?_
      refine g_seq ?_
      refine g_region ?_
      refine g_pure (p_move rfl) rfl ?_
      refine g_pure (p_eql rfl rfl) rfl ?_
      refine g_pure (p_move rfl) rfl ?_
      refine g_yes rfl rfl ?_
      refine g_pure (p_move rfl) rfl ?_
      refine g_yes rfl rfl ?_
      refine g_pure (p_len (by rfl) rfl) rfl ?_
      refine g_yes rfl rfl ?_
      refine g_pure (p_eql rfl rfl) rfl ?_
      first | refine g_pure (p_pickt rfl rfl) rfl ?_ | refine g_pure (p_pickf rfl rfl) rfl ?_
      refine g_pure (p_move rfl) rfl ?_
      refine g_yes rfl rfl ?_
      refine g_call (Hin := []) (Hr := ?hr9) (R := ?rr9) rfl rfl rfl ?hin9 ?hc9 ?hk9
      case hin9 => repeat' (first | exact Cover.nil | exact Take.here | apply Cover.cons | apply Take.there)
      case hc9 => intro ρ' hρ hR; exact awake_ok
      rintro _ _ ⟨rfl, rfl⟩
      first | refine g_pure (p_pickt rfl rfl) rfl ?_ | refine g_pure (p_pickf rfl rfl) rfl ?_
      refine g_pure (p_assign rfl) rfl ?_
      refine g_nil ?_
      refine g_qt ?_
      refine g_ret ?_
      exact g_post (Ho := []) (rs := [.tmp 2]) rfl (.tmp rfl .nil) rfl .nil

theorem sbudgets_ok {ρ : Nat → Obj → Prop} {n : Int} {ca : Option Addr} {cc : Nat} {F : Fm} (hF : FmI ρ n ca F) {a b : Int} (ha : 0 ≤ a ∧ a ≤ 255) (hb : 0 ≤ b ∧ b ≤ 255) :
    Con Try.prog ρ 6 #[.agg #[.int .i64 n, .slice ca F.length cc], .int .u8 a, .int .u8 b] [] (fun v _ => v = .bool true) := by
  refine con_intro Try.func6 Try.call6 rfl Try.ntmps6 rfl (L := [(0, _), (1, _), (2, _)]) rfl fun w hh => ?_
  refine g_seq ?_
  refine g_region ?_
  refine g_eff (e_box rfl (by rfl)) rfl (fun _ _ => ?_)
  rintro ⟨b3, rfl, rfl⟩
  refine g_pure (p_assign rfl) rfl ?_
  refine g_nil ?_
  refine g_qt ?_
  refine g_seq ?_
  refine g_region ?_
  refine g_pure (p_move rfl) rfl ?_
  first | refine g_pure (p_convi (by rfl) rfl (by omega)) rfl ?_ | refine g_pure (p_conv (by rfl) rfl) rfl ?_
  refine g_pure (p_move rfl) rfl ?_
  first | refine g_pure (p_convi (by rfl) rfl (by omega)) rfl ?_ | refine g_pure (p_conv (by rfl) rfl) rfl ?_
  refine g_pure (p_move rfl) rfl ?_
  first | refine g_pure (p_convi (by rfl) rfl (by omega)) rfl ?_ | refine g_pure (p_conv (by rfl) rfl) rfl ?_
  first | refine g_pure (p_addi rfl rfl (by omega)) rfl ?_ | refine g_pure (p_add rfl rfl) rfl ?_
  refine g_pure (p_assign rfl) rfl ?_
  refine g_pure (p_assign rfl) rfl ?_
  refine g_nil ?_
  refine g_qt ?_
  refine g_seq ?_
  refine g_seq ?_
  refine g_region ?_
  first | refine g_pure (p_loadO (by rfl) rfl (by first | (apply Has.own; (repeat' (first | exact Take.here | apply Take.there)); done) | exact Has.ro (by assumption)) (by rfl)) rfl ?_ | refine g_pure (p_loadN (by rfl) rfl (by first | (apply Has.own; (repeat' (first | exact Take.here | apply Take.there)); done) | exact Has.ro (by assumption)) (by first | rfl | assumption)) rfl ?_
  refine g_pure (p_move rfl) rfl ?_
  refine g_call (Hin := []) (Hr := ?hr10) (R := ?rr10) rfl rfl rfl ?hin10 ?hc10 ?hk10
  case hin10 => repeat' (first | exact Cover.nil | exact Take.here | apply Cover.cons | apply Take.there)
  case hc10 => intro ρ' hρ hR; exact heavy_ok (hF.mono hρ) (a + b)
  rintro _ _ ⟨hb0, rfl, rfl, hL⟩
  refine g_nil ?_
  refine g_qt ?_
  cases hb0 with
  | true =>
    refine g_ift rfl ?_
    refine g_seq ?_
    refine g_region ?_
    refine g_call (Hin := []) (Hr := ?hr11) (R := ?rr11) rfl rfl rfl ?hin11 ?hc11 ?hk11
    case hin11 => repeat' (first | exact Cover.nil | exact Take.here | apply Cover.cons | apply Take.there)
    case hc11 => intro ρ' hρ hR; exact awake_ok
    rintro _ _ ⟨rfl, rfl⟩
    refine g_pure (p_assign rfl) rfl ?_
    refine g_nil ?_
    refine g_qt ?_
    refine g_ret ?_
    refine g_qt_ret ?_
    exact g_post (Ho := []) (rs := [.tmp 6]) rfl (.tmp rfl .nil) rfl .nil
  | false =>
    have hL := hL rfl
    have hokF : check1 n F = 0 → okF n.toNat F := fun h => (hL.ok h).lits
    refine g_iff rfl ?_
    refine g_skip ?_
    refine g_qt ?_
    refine g_seq ?_
    refine g_region ?_
    first | refine g_pure (p_loadO (by rfl) rfl (by first | (apply Has.own; (repeat' (first | exact Take.here | apply Take.there)); done) | exact Has.ro (by assumption)) (by rfl)) rfl ?_ | refine g_pure (p_loadN (by rfl) rfl (by first | (apply Has.own; (repeat' (first | exact Take.here | apply Take.there)); done) | exact Has.ro (by assumption)) (by first | rfl | assumption)) rfl ?_
    refine g_pure (p_move rfl) rfl ?_
    refine g_call (Hin := []) (Hr := ?hr12) (R := ?rr12) rfl rfl rfl ?hin12 ?hc12 ?hk12
    case hin12 => repeat' (first | exact Cover.nil | exact Take.here | apply Cover.cons | apply Take.there)
    case hc12 => intro ρ' hρ hR; exact solve_ok n hF.vars ca cc F (hF.fm.mono hρ) (fun h => hL.ok h) a ⟨by omega, by omega⟩
    rintro _ _ ⟨c1, x1, a1, k1, e1, hS1, rfl, rfl⟩
    refine g_pure (p_move rfl) rfl ?_
    refine g_pure (p_extract rfl rfl) rfl ?_
    refine g_pure (p_extract rfl rfl) rfl ?_
    refine g_pure (p_extract rfl rfl) rfl ?_
    refine g_pure (p_assign rfl) rfl ?_
    refine g_pure (p_assign rfl) rfl ?_
    refine g_pure (p_assign rfl) rfl ?_
    refine g_nil ?_
    refine g_qt ?_
    refine g_seq ?_
    refine g_region ?_
    first | refine g_pure (p_loadO (by rfl) rfl (by first | (apply Has.own; (repeat' (first | exact Take.here | apply Take.there)); done) | exact Has.ro (by assumption)) (by rfl)) rfl ?_ | refine g_pure (p_loadN (by rfl) rfl (by first | (apply Has.own; (repeat' (first | exact Take.here | apply Take.there)); done) | exact Has.ro (by assumption)) (by first | rfl | assumption)) rfl ?_
    refine g_pure (p_move rfl) rfl ?_
    refine g_call (Hin := []) (Hr := ?hr13) (R := ?rr13) rfl rfl rfl ?hin13 ?hc13 ?hk13
    case hin13 => repeat' (first | exact Cover.nil | exact Take.here | apply Cover.cons | apply Take.there)
    case hc13 => intro ρ' hρ hR; exact solve_ok n hF.vars ca cc F (hF.fm.mono hρ) (fun h => hL.ok h) (a + b) ⟨by omega, by omega⟩
    rintro _ _ ⟨c2, x2, a2, k2, e2, hS2, rfl, rfl⟩
    obtain ⟨rfl, g1, g2, g3⟩ := budgets_ok hokF ha.1 (by omega) hS1 hS2
    refine g_pure (p_move rfl) rfl ?_
    refine g_pure (p_extract rfl rfl) rfl ?_
    refine g_pure (p_extract rfl rfl) rfl ?_
    refine g_pure (p_extract rfl rfl) rfl ?_
    refine g_pure (p_assign rfl) rfl ?_
    refine g_pure (p_assign rfl) rfl ?_
    refine g_pure (p_assign rfl) rfl ?_
    refine g_nil ?_
    refine g_qt ?_
    refine g_seq ?_
    refine g_seq ?_
    refine g_join (fun _ : Unit => [(3, .pointer (some ⟨b3, 0, none⟩)), (9, .int .i64 c1), (10, .slice a1 x1.length k1), (12, .int .i64 c2), (13, .slice a2 x2.length k2), (55, .bool false)])
      (fun _ => [OwnSl 4 1 a1 x1.length k1 x1, OwnSl 4 1 a2 x2.length k2 x2, Blk b3 (.cells [.int .i64 n, .slice ca F.length cc].toArray 24 (0, 0))]) (fun _ => True) ?_ ?_
    · refine g_region ?_
      refine g_pure (p_move rfl) rfl ?_
      refine g_pure (p_move rfl) rfl ?_
      refine g_pure (p_neqF rfl rfl rfl) rfl ?_
      refine g_pure (p_move rfl) rfl ?_
      refine g_yes rfl rfl ?_
      refine g_pure (p_move rfl) rfl ?_
      refine g_yes rfl rfl ?_
      refine g_pure (p_eql rfl rfl) rfl ?_
      refine g_yes rfl rfl ?_
      refine g_pure (p_move rfl) rfl ?_
      refine g_splitd rfl rfl (fun y1 => ?_) (fun y1 => ?_)
      · have hx1 := g1 y1
        refine g_yes rfl rfl ?_
        refine g_pure (p_move rfl) rfl ?_
        refine g_yes rfl rfl ?_
        refine g_pure (p_eql rfl rfl) rfl ?_
        refine g_yes rfl rfl ?_
        first | refine g_pure (p_pickt rfl rfl) rfl ?_ | refine g_pure (p_pickf rfl rfl) rfl ?_
        refine g_yes rfl rfl ?_
        refine g_pure (p_move rfl) rfl ?_
        refine g_splitd rfl rfl (fun y2 => ?_) (fun y2 => ?_)
        · subst hx1
          refine g_yes rfl rfl ?_
          refine g_pure (p_move rfl) rfl ?_
          refine g_yes rfl rfl ?_
          refine g_pure (p_len (by rfl) rfl) rfl ?_
          refine g_yes rfl rfl ?_
          refine g_pure (p_gtr rfl rfl) rfl ?_
          refine g_yes rfl rfl ?_
          first | refine g_pure (p_pickt rfl rfl) rfl ?_ | refine g_pure (p_pickf rfl rfl) rfl ?_
          first | refine g_pure (p_pickt rfl rfl) rfl ?_ | refine g_pure (p_pickf rfl rfl) rfl ?_
          refine g_nil ?_
          refine g_qn ?_
          exact g_joined () (by repeat (first | exact trivial | refine ⟨by rfl, ?_⟩)) (by repeat' (first | exact Cover.nil | exact Take.here | apply Cover.cons | apply Take.there)) trivial
        · refine g_no rfl rfl rfl rfl ?_
          refine g_no rfl rfl rfl rfl ?_
          refine g_no rfl rfl rfl rfl ?_
          refine g_yes rfl rfl ?_
          first | refine g_pure (p_pickt rfl rfl) rfl ?_ | refine g_pure (p_pickf rfl rfl) rfl ?_
          first | refine g_pure (p_pickt rfl rfl) rfl ?_ | refine g_pure (p_pickf rfl rfl) rfl ?_
          refine g_nil ?_
          refine g_qn ?_
          exact g_joined () (by repeat (first | exact trivial | refine ⟨by rfl, ?_⟩)) (by repeat' (first | exact Cover.nil | exact Take.here | apply Cover.cons | apply Take.there)) trivial
      · refine g_no rfl rfl rfl rfl ?_
        refine g_no rfl rfl rfl rfl ?_
        refine g_yes rfl rfl ?_
        first | refine g_pure (p_pickt rfl rfl) rfl ?_ | refine g_pure (p_pickf rfl rfl) rfl ?_
        refine g_yes rfl rfl ?_
        refine g_pure (p_move rfl) rfl ?_
        refine g_no rfl rfl rfl rfl ?_
        refine g_no rfl rfl rfl rfl ?_
        refine g_no rfl rfl rfl rfl ?_
        refine g_yes rfl rfl ?_
        first | refine g_pure (p_pickt rfl rfl) rfl ?_ | refine g_pure (p_pickf rfl rfl) rfl ?_
        first | refine g_pure (p_pickt rfl rfl) rfl ?_ | refine g_pure (p_pickf rfl rfl) rfl ?_
        refine g_nil ?_
        refine g_qn ?_
        exact g_joined () (by repeat (first | exact trivial | refine ⟨by rfl, ?_⟩)) (by repeat' (first | exact Cover.nil | exact Take.here | apply Cover.cons | apply Take.there)) trivial
    rintro - -
    refine g_qt ?_
    refine g_iff rfl ?_
    refine g_skip ?_
    refine g_qt ?_
    refine g_seq ?_
    refine g_seq ?_
    refine g_join (fun _ : Unit => [(3, .pointer (some ⟨b3, 0, none⟩)), (12, .int .i64 c2), (13, .slice a2 x2.length k2), (68, .bool false)])
      (fun _ => [OwnSl 4 1 a2 x2.length k2 x2, Blk b3 (.cells [.int .i64 n, .slice ca F.length cc].toArray 24 (0, 0))]) (fun _ => True) ?_ ?_
    · refine g_region ?_
      refine g_pure (p_move rfl) rfl ?_
      refine g_pure (p_neq rfl rfl) rfl ?_
      refine g_pure (p_move rfl) rfl ?_
      refine g_splitnd rfl rfl (fun y1 => ?_) (fun y1 => ?_)
      · obtain ⟨rfl, rfl⟩ := g2 y1
        obtain ⟨xs, rfl, hxl⟩ := hS1.bools
        refine g_yes rfl rfl ?_
        refine g_pure (p_move rfl) rfl ?_
        refine g_yes rfl rfl ?_
        refine g_pure (p_move rfl) rfl ?_
        refine g_yes rfl rfl ?_
        refine g_pure (p_neqF rfl rfl rfl) rfl ?_
        refine g_yes rfl rfl ?_
        refine g_pure (p_move rfl) rfl ?_
        refine g_yes rfl rfl ?_
        refine g_pure (p_move rfl) rfl ?_
        refine g_yes rfl rfl ?_
        refine g_pure (p_move rfl) rfl ?_
        refine g_yes rfl rfl ?_
        refine g_call (Hin := []) (Hr := ?hr14) (R := ?rr14) rfl rfl rfl ?hin14 ?hc14 ?hk14
        case hin14 => repeat' (first | exact Cover.nil | exact Take.here | apply Cover.cons | apply Take.there)
        case hc14 => intro ρ' hρ hR; exact bools_ok (xs := xs) (ys := xs) (by simp) (by simp) (RSl.of_own (Take.ro (A := OwnSl 4 1 a1 (xs.map encB).length k1 (xs.map encB)) (by repeat' (first | exact Take.here | apply Take.there)) hR)) (RSl.of_own (Take.ro (A := OwnSl 4 1 a2 (xs.map encB).length k2 (xs.map encB)) (by repeat' (first | exact Take.here | apply Take.there)) hR)) (by omega) (by omega)
        rintro _ _ ⟨rfl, rfl⟩
        rw [decide_eq_true rfl]
        refine g_yes rfl rfl ?_
        refine g_pure (p_not rfl) rfl ?_
        refine g_yes rfl rfl ?_
        first | refine g_pure (p_pickt rfl rfl) rfl ?_ | refine g_pure (p_pickf rfl rfl) rfl ?_
        first | refine g_pure (p_pickt rfl rfl) rfl ?_ | refine g_pure (p_pickf rfl rfl) rfl ?_
        refine g_nil ?_
        refine g_qn ?_
        exact g_joined () (by repeat (first | exact trivial | refine ⟨by rfl, ?_⟩)) (by repeat' (first | exact Cover.nil | exact Take.here | apply Cover.cons | apply Take.there)) trivial
      · refine g_no rfl rfl rfl rfl ?_
        refine g_no rfl rfl rfl rfl ?_
        refine g_no rfl rfl rfl rfl ?_
        refine g_no rfl rfl rfl rfl ?_
        refine g_nou rfl rfl rfl ?_
        refine g_nou rfl rfl rfl ?_
        refine g_nou rfl rfl rfl ?_
        refine g_nou rfl rfl rfl ?_
        refine g_no rfl rfl rfl rfl ?_
        first | refine g_pure (p_pickt rfl rfl) rfl ?_ | refine g_pure (p_pickf rfl rfl) rfl ?_
        refine g_nil ?_
        refine g_qn ?_
        exact g_joined () (by repeat (first | exact trivial | refine ⟨by rfl, ?_⟩)) (by repeat' (first | exact Cover.nil | exact Take.here | apply Cover.cons | apply Take.there)) trivial
    rintro - -
    refine g_qt ?_
    refine g_iff rfl ?_
    refine g_skip ?_
    refine g_qt ?_
    refine g_seq ?_
    refine g_region ?_
    refine g_pure (p_move rfl) rfl ?_
    refine g_pure (p_neq rfl rfl) rfl ?_
    refine g_pure (p_move rfl) rfl ?_
    refine g_splitnd rfl rfl (fun y3 => ?_) (fun y3 => ?_)
    · refine g_no rfl rfl rfl rfl ?_
      refine g_no rfl rfl rfl rfl ?_
      refine g_no rfl rfl rfl rfl ?_
      first | refine g_pure (p_pickt rfl rfl) rfl ?_ | refine g_pure (p_pickf rfl rfl) rfl ?_
      refine g_pure (p_move rfl) rfl ?_
      refine g_yes rfl rfl ?_
      refine g_call (Hin := []) (Hr := ?hr15) (R := ?rr15) rfl rfl rfl ?hin15 ?hc15 ?hk15
      case hin15 => repeat' (first | exact Cover.nil | exact Take.here | apply Cover.cons | apply Take.there)
      case hc15 => intro ρ' hρ hR; exact awake_ok
      rintro _ _ ⟨rfl, rfl⟩
      first | refine g_pure (p_pickt rfl rfl) rfl ?_ | refine g_pure (p_pickf rfl rfl) rfl ?_
      refine g_pure (p_assign rfl) rfl ?_
      refine g_nil ?_
      refine g_qt ?_
      refine g_ret ?_
      exact g_post (Ho := []) (rs := [.tmp 6]) rfl (.tmp rfl .nil) rfl .nil
    · obtain ⟨xs, rfl, hxl, hrt⟩ := g3 y3
      have hml : (xs.map encB).length = xs.length := by simp
      rw [hml]
      refine g_yes rfl rfl ?_
      first | refine g_pure (p_loadO (by rfl) rfl (by first | (apply Has.own; (repeat' (first | exact Take.here | apply Take.there)); done) | exact Has.ro (by assumption)) (by rfl)) rfl ?_ | refine g_pure (p_loadN (by rfl) rfl (by first | (apply Has.own; (repeat' (first | exact Take.here | apply Take.there)); done) | exact Has.ro (by assumption)) (by first | rfl | assumption)) rfl ?_
      refine g_yes rfl rfl ?_
      refine g_pure (p_move rfl) rfl ?_
      refine g_yes rfl rfl ?_
      refine g_call (Hin := []) (Hr := ?hr16) (R := ?rr16) rfl rfl rfl ?hin16 ?hc16 ?hk16
      case hin16 => repeat' (first | exact Cover.nil | exact Take.here | apply Cover.cons | apply Take.there)
      case hc16 => intro ρ' hρ hR; exact right_ok (xs := xs) (hF.mono hρ) (fun h => hL.ok h) (RSl.of_own hR.1) (by omega)
      rintro _ _ ⟨rfl, rfl⟩
      rw [hrt]
      first | refine g_pure (p_pickt rfl rfl) rfl ?_ | refine g_pure (p_pickf rfl rfl) rfl ?_
      refine g_pure (p_move rfl) rfl ?_
      refine g_yes rfl rfl ?_
      refine g_call (Hin := []) (Hr := ?hr17) (R := ?rr17) rfl rfl rfl ?hin17 ?hc17 ?hk17
      case hin17 => repeat' (first | exact Cover.nil | exact Take.here | apply Cover.cons | apply Take.there)
      case hc17 => intro ρ' hρ hR; exact awake_ok
      rintro _ _ ⟨rfl, rfl⟩
      first | refine g_pure (p_pickt rfl rfl) rfl ?_ | refine g_pure (p_pickf rfl rfl) rfl ?_
      refine g_pure (p_assign rfl) rfl ?_
      refine g_nil ?_
      refine g_qt ?_
      refine g_ret ?_
      exact g_post (Ho := []) (rs := [.tmp 6]) rfl (.tmp rfl .nil) rfl .nil

theorem sfollows_ok {ρ : Nat → Obj → Prop} {n : Int} {ca : Option Addr} {cc : Nat} {F : Fm} (hF : FmI ρ n ca F) {la : Option Addr} {lc : Nat} {ls : List Int} (hls : RSl ρ 1 la ls.length (ls.map encI)) (hI : ∀ l ∈ ls, I64 l) :
    Con Try.prog ρ 7 #[.agg #[.int .i64 n, .slice ca F.length cc], .slice la ls.length lc] [] (fun v _ => v = .bool true) := by
  refine con_intro Try.func7 Try.call7 rfl Try.ntmps7 rfl (L := [(0, _), (1, _)]) rfl fun w hh => ?_
  refine g_seq ?_
  refine g_region ?_
  refine g_eff (e_box rfl (by rfl)) rfl (fun _ _ => ?_)
  rintro ⟨b2, rfl, rfl⟩
  refine g_pure (p_assign rfl) rfl ?_
  refine g_nil ?_
  refine g_qt ?_
  refine g_seq ?_
  refine g_seq ?_
  refine g_join (fun y : Bool => [(1, .slice la ls.length lc), (2, .pointer (some ⟨b2, 0, none⟩)), (21, .bool y)]) (fun _ => [Blk b2 (.cells [.int .i64 n, .slice ca F.length cc].toArray 24 (0, 0))]) (fun y => y = false → Light n F 0 ∧ n ≤ 9 ∧ ls.length ≤ 20) ?_ ?_
  · refine g_region ?_
    first | refine g_pure (p_loadO (by rfl) rfl (by first | (apply Has.own; (repeat' (first | exact Take.here | apply Take.there)); done) | exact Has.ro (by assumption)) (by rfl)) rfl ?_ | refine g_pure (p_loadN (by rfl) rfl (by first | (apply Has.own; (repeat' (first | exact Take.here | apply Take.there)); done) | exact Has.ro (by assumption)) (by first | rfl | assumption)) rfl ?_
    refine g_call (Hin := []) (Hr := ?hr18) (R := ?rr18) rfl rfl rfl ?hin18 ?hc18 ?hk18
    case hin18 => repeat' (first | exact Cover.nil | exact Take.here | apply Cover.cons | apply Take.there)
    case hc18 => intro ρ' hρ hR; exact heavy_ok (hF.mono hρ) 0
    rintro _ _ ⟨b, rfl, rfl, hL⟩
    refine g_pure (p_move rfl) rfl ?_
    cases b with
    | true =>
      refine g_no rfl rfl rfl rfl ?_
      refine g_no rfl rfl rfl rfl ?_
      refine g_no rfl rfl rfl rfl ?_
      first | refine g_pure (p_pickt rfl rfl) rfl ?_ | refine g_pure (p_pickf rfl rfl) rfl ?_
      refine g_pure (p_move rfl) rfl ?_
      refine g_no rfl rfl rfl rfl ?_
      refine g_no rfl rfl rfl rfl ?_
      refine g_no rfl rfl rfl rfl ?_
      first | refine g_pure (p_pickt rfl rfl) rfl ?_ | refine g_pure (p_pickf rfl rfl) rfl ?_
      refine g_nil ?_
      refine g_qn ?_
      exact g_joined true (by repeat (first | exact trivial | refine ⟨by rfl, ?_⟩)) (by repeat' (first | exact Cover.nil | exact Take.here | apply Cover.cons | apply Take.there)) fun h => by cases h
    | false =>
      have hL := hL rfl
      refine g_yes rfl rfl ?_
      refine g_pure (p_fieldAddr rfl) rfl ?_
      refine g_yes rfl rfl ?_
      refine g_pure (p_load (by rfl) rfl (by first | (apply Has.own; (repeat' (first | exact Take.here | apply Take.there)); done) | exact Has.ro (by assumption)) (by first | rfl | assumption)) rfl ?_
      refine g_yes rfl rfl ?_
      refine g_pure (p_gtr rfl rfl) rfl ?_
      first | refine g_pure (p_pickt rfl rfl) rfl ?_ | refine g_pure (p_pickf rfl rfl) rfl ?_
      refine g_pure (p_move rfl) rfl ?_
      refine g_splitd rfl rfl (fun y2 => ?_) (fun y2 => ?_)
      · refine g_no rfl rfl rfl rfl ?_
        refine g_no rfl rfl rfl rfl ?_
        refine g_no rfl rfl rfl rfl ?_
        first | refine g_pure (p_pickt rfl rfl) rfl ?_ | refine g_pure (p_pickf rfl rfl) rfl ?_
        refine g_nil ?_
        refine g_qn ?_
        exact g_joined true (by repeat (first | exact trivial | refine ⟨by rfl, ?_⟩)) (by repeat' (first | exact Cover.nil | exact Take.here | apply Cover.cons | apply Take.there)) fun h => by cases h
      · refine g_yes rfl rfl ?_
        refine g_pure (p_move rfl) rfl ?_
        refine g_yes rfl rfl ?_
        refine g_pure (p_len (by rfl) rfl) rfl ?_
        refine g_yes rfl rfl ?_
        refine g_pure (p_gtr rfl rfl) rfl ?_
        first | refine g_pure (p_pickt rfl rfl) rfl ?_ | refine g_pure (p_pickf rfl rfl) rfl ?_
        refine g_nil ?_
        refine g_qn ?_
        exact g_joined (decide (20 < (ls.length : Int))) (by repeat (first | exact trivial | refine ⟨by rfl, ?_⟩)) (by repeat' (first | exact Cover.nil | exact Take.here | apply Cover.cons | apply Take.there)) fun h => ⟨hL, by omega, by have := of_decide_eq_false h; omega⟩
  intro y hL
  refine g_qt ?_
  cases y with
  | true =>
    refine g_ift rfl ?_
    refine g_seq ?_
    refine g_region ?_
    refine g_call (Hin := []) (Hr := ?hr19) (R := ?rr19) rfl rfl rfl ?hin19 ?hc19 ?hk19
    case hin19 => repeat' (first | exact Cover.nil | exact Take.here | apply Cover.cons | apply Take.there)
    case hc19 => intro ρ' hρ hR; exact awake_ok
    rintro _ _ ⟨rfl, rfl⟩
    refine g_pure (p_assign rfl) rfl ?_
    refine g_nil ?_
    refine g_qt ?_
    refine g_ret ?_
    refine g_qt_ret ?_
    exact g_post (Ho := []) (rs := [.tmp 4]) rfl (.tmp rfl .nil) rfl .nil
  | false =>
    obtain ⟨hL, hn9, hl20⟩ := hL rfl
    have hlen : ls.length ≤ 9223372036854775806 := by omega
    refine g_iff rfl ?_
    refine g_skip ?_
    refine g_qt ?_
    refine g_seq ?_
    refine g_region ?_
    first | refine g_pure (p_loadO (by rfl) rfl (by first | (apply Has.own; (repeat' (first | exact Take.here | apply Take.there)); done) | exact Has.ro (by assumption)) (by rfl)) rfl ?_ | refine g_pure (p_loadN (by rfl) rfl (by first | (apply Has.own; (repeat' (first | exact Take.here | apply Take.there)); done) | exact Has.ro (by assumption)) (by first | rfl | assumption)) rfl ?_
    refine g_pure (p_move rfl) rfl ?_
    refine g_call (Hin := []) (Hr := ?hr20) (R := ?rr20) rfl rfl rfl ?hin20 ?hc20 ?hk20
    case hin20 => repeat' (first | exact Cover.nil | exact Take.here | apply Cover.cons | apply Take.there)
    case hc20 => intro ρ' hρ hR; exact unit_ok n hF.vars ca cc F (hF.fm.mono hρ) (fun h => hL.ok h) la lc ls (hls.mono hρ) hlen hI
    rintro _ _ ⟨o1, a1, k1, ok1, e1, hS1, rfl, rfl⟩
    refine g_pure (p_move rfl) rfl ?_
    refine g_pure (p_extract rfl rfl) rfl ?_
    refine g_pure (p_extract rfl rfl) rfl ?_
    refine g_pure (p_extract rfl rfl) rfl ?_
    refine g_pure (p_assign rfl) rfl ?_
    refine g_pure (p_assign rfl) rfl ?_
    refine g_pure (p_assign rfl) rfl ?_
    refine g_nil ?_
    refine g_qt ?_
    refine g_seq ?_
    refine g_seq ?_
    refine g_region ?_
    refine g_pure (p_move rfl) rfl ?_
    refine g_pure (p_neq rfl rfl) rfl ?_
    refine g_nil ?_
    refine g_qt ?_
    refine g_ifnd rfl (fun he => ?_) (fun he => ?_)
    · refine g_seq ?_
      refine g_region ?_
      refine g_call (Hin := []) (Hr := ?hr21) (R := ?rr21) rfl rfl rfl ?hin21 ?hc21 ?hk21
      case hin21 => repeat' (first | exact Cover.nil | exact Take.here | apply Cover.cons | apply Take.there)
      case hc21 => intro ρ' hρ hR; exact awake_ok
      rintro _ _ ⟨rfl, rfl⟩
      refine g_pure (p_assign rfl) rfl ?_
      refine g_nil ?_
      refine g_qt ?_
      refine g_ret ?_
      refine g_qt_ret ?_
      exact g_post (Ho := []) (rs := [.tmp 4]) rfl (.tmp rfl .nil) rfl .nil
    · subst he
      have hc := hS1.check
      have hO := hL.ok hc
      have hnn := check1_nonneg hc
      obtain ⟨m, rfl⟩ : ∃ m : Nat, n = m := ⟨n.toNat, by omega⟩
      rw [Int.toNat_natCast] at hO
      have hm9 : m ≤ 9 := by omega
      have hp9 := pow_le9 hm9
      have hshl := shl_nat hm9
      have hol := hS1.len
      have hoI := hS1.i64
      refine g_skip ?_
      refine g_qt ?_
      refine g_seq ?_
      refine g_seq ?_
      refine g_region ?_
      refine g_pure (p_assign rfl) rfl ?_
      refine g_nil ?_
      refine g_qt ?_
      refine g_block ?_
      refine g_loop (fun k : Nat => [(1, .slice la ls.length lc), (2, .pointer (some ⟨b2, 0, none⟩)), (5, .slice a1 o1.length k1), (6, .bool ok1), (8, .int .i64 k)])
        (fun k => [OwnSl 3 1 a1 o1.length k1 (o1.map encI), Blk b2 (.cells [.int .i64 m, .slice ca F.length cc].toArray 24 (0, 0))]) (fun k => k ≤ 2 ^ m) (fun k => 2 ^ m - k) 0 (Nat.zero_le _) (by repeat (first | exact trivial | refine ⟨by rfl, ?_⟩)) (by repeat' (first | exact Cover.nil | exact Take.here | apply Cover.cons | apply Take.there)) ?_
      intro k hk
      refine g_seq ?_
      refine g_seq ?_
      refine g_region ?_
      refine g_pure (p_move rfl) rfl ?_
      refine g_pure (p_fieldAddr rfl) rfl ?_
      refine g_pure (p_load (by rfl) rfl (by first | (apply Has.own; (repeat' (first | exact Take.here | apply Take.there)); done) | exact Has.ro (by assumption)) (by first | rfl | assumption)) rfl ?_
      refine g_pure (p_shl rfl rfl (by omega)) rfl ?_
      refine g_pure (p_lss rfl rfl) rfl ?_
      refine g_nil ?_
      refine g_qt ?_
      refine g_ifd rfl (fun q => ?_) (fun q => ?_)
      · rw [hshl] at q
        have hkl : k < 2 ^ m := by omega
        refine g_skip ?_
        refine g_qt ?_
        refine g_seq ?_
        refine g_block ?_
        refine g_seq ?_
        refine g_region ?_
        refine g_pure (p_fieldAddr rfl) rfl ?_
        refine g_pure (p_load (by rfl) rfl (by first | (apply Has.own; (repeat' (first | exact Take.here | apply Take.there)); done) | exact Has.ro (by assumption)) (by first | rfl | assumption)) rfl ?_
        refine g_pure (p_move rfl) rfl ?_
        refine g_call (Hin := []) (Hr := ?hr22) (R := ?rr22) rfl rfl rfl ?hin22 ?hc22 ?hk22
        case hin22 => repeat' (first | exact Cover.nil | exact Take.here | apply Cover.cons | apply Take.there)
        case hc22 => intro ρ' hρ hR; exact lmodel_ok m k (by omega) (by omega)
        rintro _ _ ⟨am, cm, rfl, rfl⟩
        refine g_pure (p_assign rfl) rfl ?_
        refine g_nil ?_
        refine g_qt ?_
        refine g_seq ?_
        refine g_seq ?_
        refine g_region ?_
        first | refine g_pure (p_loadO (by rfl) rfl (by first | (apply Has.own; (repeat' (first | exact Take.here | apply Take.there)); done) | exact Has.ro (by assumption)) (by rfl)) rfl ?_ | refine g_pure (p_loadN (by rfl) rfl (by first | (apply Has.own; (repeat' (first | exact Take.here | apply Take.there)); done) | exact Has.ro (by assumption)) (by first | rfl | assumption)) rfl ?_
        refine g_pure (p_move rfl) rfl ?_
        refine g_call (Hin := []) (Hr := ?hr23) (R := ?rr23) rfl rfl rfl ?hin23 ?hc23 ?hk23
        case hin23 => repeat' (first | exact Cover.nil | exact Take.here | apply Cover.cons | apply Take.there)
        case hc23 => intro ρ' hρ hR; exact right_ok (xs := mlist m k) (hF.mono hρ) (fun h => hL.ok h) (RSl.of_own hR.1) (by rw [mlist_len]; omega)
        rintro _ _ ⟨rfl, rfl⟩
        refine g_pure (p_not rfl) rfl ?_
        refine g_pure (p_move rfl) rfl ?_
        cases hrb : rightB m F (mlist m k) with
        | false =>
          refine g_no rfl rfl rfl rfl ?_
          refine g_no rfl rfl rfl rfl ?_
          refine g_no rfl rfl rfl rfl ?_
          refine g_no rfl rfl rfl rfl ?_
          first | refine g_pure (p_pickt rfl rfl) rfl ?_ | refine g_pure (p_pickf rfl rfl) rfl ?_
          refine g_nil ?_
          refine g_qt ?_
          refine g_ift rfl ?_
          refine g_exit ?_
          refine g_qt_exit ?_
          refine g_qb_exit ?_
          refine g_qt ?_
          refine g_region ?_
          refine g_pure (p_move rfl) rfl ?_
          first | refine g_pure (p_addi rfl rfl (by omega)) rfl ?_ | refine g_pure (p_add rfl rfl) rfl ?_
          refine g_pure (p_assign rfl) rfl ?_
          refine g_nil ?_
          refine g_qn ?_
          exact g_next (k + 1) (by repeat (first | exact trivial | refine ⟨by rfl, ?_⟩)) (by repeat' (first | exact Cover.nil | exact Take.here | apply Cover.cons | apply Take.there)) (by omega) (by omega)
        | true =>
          refine g_yes rfl rfl ?_
          refine g_pure (p_move rfl) rfl ?_
          refine g_yes rfl rfl ?_
          refine g_pure (p_move rfl) rfl ?_
          refine g_yes rfl rfl ?_
          refine g_call (Hin := []) (Hr := ?hr24) (R := ?rr24) rfl rfl rfl ?hin24 ?hc24 ?hk24
          case hin24 => repeat' (first | exact Cover.nil | exact Take.here | apply Cover.cons | apply Take.there)
          case hc24 => intro ρ' hρ hR; exact holds_ok (xs := mlist m k) (ls := ls) (RSl.of_own hR.1) (by rw [mlist_len]; omega) (hls.mono hρ) hlen hI
          rintro _ _ ⟨rfl, rfl⟩
          refine g_yes rfl rfl ?_
          refine g_pure (p_not rfl) rfl ?_
          first | refine g_pure (p_pickt rfl rfl) rfl ?_ | refine g_pure (p_pickf rfl rfl) rfl ?_
          refine g_nil ?_
          refine g_qt ?_
          cases hhb : holdsB (mlist m k) ls with
          | false =>
            refine g_ift rfl ?_
            refine g_exit ?_
            refine g_qt_exit ?_
            refine g_qb_exit ?_
            refine g_qt ?_
            refine g_region ?_
            refine g_pure (p_move rfl) rfl ?_
            first | refine g_pure (p_addi rfl rfl (by omega)) rfl ?_ | refine g_pure (p_add rfl rfl) rfl ?_
            refine g_pure (p_assign rfl) rfl ?_
            refine g_nil ?_
            refine g_qn ?_
            exact g_next (k + 1) (by repeat (first | exact trivial | refine ⟨by rfl, ?_⟩)) (by repeat' (first | exact Cover.nil | exact Take.here | apply Cover.cons | apply Take.there)) (by omega) (by omega)
          | true =>
            obtain ⟨rfl, hout⟩ := follows_ok hO.lits hS1 hrb hhb
            refine g_iff rfl ?_
            refine g_skip ?_
            refine g_qt ?_
            refine g_seq ?_
            refine g_region ?_
            refine g_pure (p_move rfl) rfl ?_
            refine g_pure (p_not rfl) rfl ?_
            refine g_pure (p_move rfl) rfl ?_
            refine g_yes rfl rfl ?_
            refine g_pure (p_move rfl) rfl ?_
            refine g_yes rfl rfl ?_
            refine g_pure (p_move rfl) rfl ?_
            refine g_yes rfl rfl ?_
            refine g_call (Hin := []) (Hr := ?hr25) (R := ?rr25) rfl rfl rfl ?hin25 ?hc25 ?hk25
            case hin25 => repeat' (first | exact Cover.nil | exact Take.here | apply Cover.cons | apply Take.there)
            case hc25 => intro ρ' hρ hR; exact holds_ok (xs := mlist m k) (ls := o1) (RSl.of_own hR.1) (by rw [mlist_len]; omega) (RSl.of_own hR.2.1) (by omega) hoI
            rintro _ _ ⟨rfl, rfl⟩
            rw [hout]
            refine g_yes rfl rfl ?_
            refine g_pure (p_not rfl) rfl ?_
            first | refine g_pure (p_pickt rfl rfl) rfl ?_ | refine g_pure (p_pickf rfl rfl) rfl ?_
            refine g_nil ?_
            refine g_qt ?_
            refine g_iff rfl ?_
            refine g_skip ?_
            refine g_qb ?_
            refine g_qt ?_
            refine g_region ?_
            refine g_pure (p_move rfl) rfl ?_
            first | refine g_pure (p_addi rfl rfl (by omega)) rfl ?_ | refine g_pure (p_add rfl rfl) rfl ?_
            refine g_pure (p_assign rfl) rfl ?_
            refine g_nil ?_
            refine g_qn ?_
            exact g_next (k + 1) (by repeat (first | exact trivial | refine ⟨by rfl, ?_⟩)) (by repeat' (first | exact Cover.nil | exact Take.here | apply Cover.cons | apply Take.there)) (by omega) (by omega)
      · refine g_exit ?_
        refine g_qt_exit ?_
        refine g_qn_exit ?_
        refine g_qb_exit ?_
        refine g_qt ?_
        refine g_seq ?_
        refine g_region ?_
        refine g_call (Hin := []) (Hr := ?hr26) (R := ?rr26) rfl rfl rfl ?hin26 ?hc26 ?hk26
        case hin26 => repeat' (first | exact Cover.nil | exact Take.here | apply Cover.cons | apply Take.there)
        case hc26 => intro ρ' hρ hR; exact awake_ok
        rintro _ _ ⟨rfl, rfl⟩
        refine g_pure (p_assign rfl) rfl ?_
        refine g_nil ?_
        refine g_qt ?_
        refine g_ret ?_
        exact g_post (Ho := []) (rs := [.tmp 4]) rfl (.tmp rfl .nil) rfl .nil
end Go.Proofs.Ytbpgblbhikeglaa
