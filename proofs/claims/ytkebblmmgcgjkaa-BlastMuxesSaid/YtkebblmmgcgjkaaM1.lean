/- BlastMuxes. Conditions: none. -/
import Derived.Test.YtkebblmmgcgjkaaM0
import Derived.Test.YtkebblmmgcgjkaaZl
namespace Go.Proofs.Ytkebblmmgcgjkaa
set_option maxRecDepth 8000
set_option linter.unusedVariables false
set_option linter.unusedSimpArgs false
set_option linter.unusedSectionVars false
open Go Go.Z Go.Z.Val Go.Z.Aig Go.Z.Bit

theorem has6 (a : Int) : hasB (S0 6) a = decide (0 ≤ a ∧ a < 14) := by
  unfold hasB
  rw [S0_len, Bool.eq_iff_iff]; simp
theorem all_snoc {l : List Int} {k : Nat} (hk : k < l.length) (p : Int → Bool) (c : List Int) : (c ++ l.take (k + 1)).all p = ((c ++ l.take k).all p && p l[k]) := by
  rw [List.take_add_one, List.getElem?_eq_getElem hk, Option.toList_some, ← List.append_assoc, List.all_append (xs := c ++ l.take k)]; simp
theorem ones (l : List Int) : one1 (l.map encI) = true := by unfold one1; rw [List.all_eq_true]; intro v hv; obtain ⟨y, _, rfl⟩ := List.mem_map.1 hv; rfl

theorem bools_n {ρ : Nat → Obj → Prop} {xa ya : Option Addr} {xc yc n : Nat} {xs ys : List Bool} (hl : xs.length = n) (he : xs = ys) (hx : RSl ρ 1 xa n (xs.map encB)) (hy : RSl ρ 1 ya n (ys.map encB)) (hn : n ≤ 1000000) :
    Con Try.prog ρ 31 #[.slice xa n xc, .slice ya n yc] [] (fun v H => v = .bool true ∧ H = []) := by
  subst he hl
  exact bools38_ok hx hy hn rfl

set_option maxHeartbeats 8000000 in
theorem bmuxes_ok {ρ : Nat → Obj → Prop} (c inb : Int) (hc : I64 c) (hib : 0 ≤ inb ∧ inb ≤ 255) {aa ba : Option Addr} {ac bc : Nat} {as' bs : List Int} (ha : RSl ρ 1 aa as'.length (as'.map encI)) (hb : RSl ρ 1 ba bs.length (bs.map encI)) (hai : ∀ l ∈ as', I64 l) (hbi : ∀ l ∈ bs, I64 l) (hal : as'.length ≤ 9223372036854775807) (hbl : bs.length ≤ 9223372036854775807) :
    Con Try.prog ρ 6 #[.int .i64 c, .slice aa as'.length ac, .slice ba bs.length bc, .int .u8 inb] [] (fun u H => u = .bool true) := by
  obtain ⟨b1, o1, cs1, T1, fz1, hra⟩ := lrd ha
  obtain ⟨b2, o2, cs2, T2, fz2, hrb⟩ := lrd hb
  have hS : (S0 6).length = 7 := S0_len 6
  have hw0 := S0_wf 6 (by omega)
  refine con_intro Try.func6 Try.call6 rfl Try.ntmps6 rfl (L := [(0, _), (1, _), (2, _), (3, _)]) rfl fun w hh => ?_
  refine g_seq ?_
  refine g_region ?_
  refine g_pure (p_assign rfl) rfl ?_
  refine g_nil ?_
  refine g_qt ?_
  refine g_seq ?_
  refine g_join (fun _ : Unit => [(0, .int .i64 c), (1, .slice aa as'.length ac), (2, .slice ba bs.length bc), (3, .int .u8 inb)]) (fun _ => []) (fun _ => as'.length ≤ 20 ∧ bs.length ≤ 20) ?_ ?_
  · refine g_seq ?_
    refine g_region ?_
    refine g_pure (p_move rfl) rfl ?_
    refine g_pure (p_len (by rfl) rfl) rfl ?_
    refine g_pure (p_gtr rfl rfl) rfl ?_
    refine g_pure (p_move rfl) rfl ?_
    refine g_splitd rfl rfl (fun h1 => ?_) (fun h1 => ?_)
    · refine g_no rfl rfl rfl rfl ?_
      refine g_no rfl rfl rfl rfl ?_
      refine g_no rfl rfl rfl rfl ?_
      first | refine g_pure (p_pickt rfl rfl) rfl ?_ | refine g_pure (p_pickf rfl rfl) rfl ?_
      refine g_nil ?_
      refine g_qt ?_
      refine g_ift rfl ?_
      refine g_seq ?_
      refine g_region ?_
      refine g_call (Hin := []) (Hr := ?hr1) (R := ?rr1) rfl rfl rfl ?hin1 ?hc1 ?hk1
      case hin1 => repeat' (first | exact Cover.nil | exact Take.here | apply Cover.cons | apply Take.there)
      case hc1 => intro ρ' hρ hR; exact blives_ok
      rintro _ _ ⟨rfl, rfl⟩
      refine g_pure (p_assign rfl) rfl ?_
      refine g_nil ?_
      refine g_qt ?_
      refine g_ret ?_
      refine g_qn_ret ?_
      refine g_qt_ret ?_
      exact g_post (Ho := []) (rs := [.tmp 8]) rfl (.tmp rfl .nil) rfl .nil
    · refine g_yes rfl rfl ?_
      refine g_pure (p_move rfl) rfl ?_
      refine g_yes rfl rfl ?_
      refine g_pure (p_len (by rfl) rfl) rfl ?_
      refine g_yes rfl rfl ?_
      refine g_pure (p_gtr rfl rfl) rfl ?_
      first | refine g_pure (p_pickt rfl rfl) rfl ?_ | refine g_pure (p_pickf rfl rfl) rfl ?_
      refine g_nil ?_
      refine g_qt ?_
      refine g_ifdL rfl (fun h3 => ?_) (fun h3 => ?_)
      · refine g_seq ?_
        refine g_region ?_
        refine g_call (Hin := []) (Hr := ?hr2) (R := ?rr2) rfl rfl rfl ?hin2 ?hc2 ?hk2
        case hin2 => repeat' (first | exact Cover.nil | exact Take.here | apply Cover.cons | apply Take.there)
        case hc2 => intro ρ' hρ hR; exact blives_ok
        rintro _ _ ⟨rfl, rfl⟩
        refine g_pure (p_assign rfl) rfl ?_
        refine g_nil ?_
        refine g_qt ?_
        refine g_ret ?_
        refine g_qn_ret ?_
        refine g_qt_ret ?_
        exact g_post (Ho := []) (rs := [.tmp 8]) rfl (.tmp rfl .nil) rfl .nil
      · refine g_skip ?_
        refine g_qn ?_
        exact g_joined () (by (repeat (first | exact trivial | refine ⟨by rfl, ?_⟩)); done) .nil (by omega)
  rintro _ ⟨ha20, hb20⟩
  refine g_qt ?_
  refine g_seq ?_
  refine g_region ?_
  refine g_call (Hin := []) (Hr := ?hr3) (R := ?rr3) rfl rfl rfl ?hin3 ?hc3 ?hk3
  case hin3 => repeat' (first | exact Cover.nil | exact Take.here | apply Cover.cons | apply Take.there)
  case hc3 => intro ρ' hρ hR; exact inputs38_ok 6 (by omega)
  rintro _ _ ⟨p, ia, ic, rfl, rfl⟩
  refine g_pure (p_move rfl) rfl ?_
  refine g_pure (p_extract rfl rfl) rfl ?_
  refine g_pure (p_extract rfl rfl) rfl ?_
  refine g_pure (p_assign rfl) rfl ?_
  refine g_pure (p_assign rfl) rfl ?_
  refine g_nil ?_
  refine g_qt ?_
  refine g_seq ?_
  refine g_seq ?_
  refine g_region ?_
  refine g_pure (p_move rfl) rfl ?_
  refine g_pure (p_eqnil (by rfl) rfl rfl) rfl ?_
  refine g_nil ?_
  refine g_qt ?_
  refine g_iff rfl ?_
  refine g_skip ?_
  refine g_qt ?_
  refine g_seq ?_
  refine g_join (fun y : Bool => [(0, .int .i64 c), (1, .slice aa as'.length ac), (2, .slice ba bs.length bc), (3, .int .u8 inb), (9, .pointer (some ⟨p, 0, none⟩)), (11, .bool y)]) (fun _ => [Gr p (S0 6)]) (fun y => y = ([c] ++ as'.take 0).all (hasB (S0 6))) ?_ ?_
  · refine g_region ?_
    refine g_pure (p_move rfl) rfl ?_
    refine g_pure (p_geq rfl rfl) rfl ?_
    refine g_pure (p_move rfl) rfl ?_
    refine g_splitd rfl rfl (fun h1 => ?_) (fun h1 => ?_)
    · refine g_yes rfl rfl ?_
      refine g_pure (p_move rfl) rfl ?_
      refine g_yes rfl rfl ?_
      refine g_pure (p_lss rfl rfl) rfl ?_
      first | refine g_pure (p_pickt rfl rfl) rfl ?_ | refine g_pure (p_pickf rfl rfl) rfl ?_
      refine g_pure (p_assign rfl) rfl ?_
      refine g_nil ?_
      refine g_qn ?_
      refine g_joined _ ⟨rfl, rfl, rfl, rfl, rfl, rfl, trivial⟩ (by repeat' (first | exact Cover.nil | exact Take.here | apply Cover.cons | apply Take.there)) ?_
      rw [show ([c] ++ as'.take 0).all (hasB (S0 6)) = hasB (S0 6) c by simp, has6]
      first | exact decide_eq_decide.2 (by omega) | exact (decide_eq_false (by omega)).symm
    · refine g_no rfl rfl rfl rfl ?_
      refine g_no rfl rfl rfl rfl ?_
      first | refine g_pure (p_pickt rfl rfl) rfl ?_ | refine g_pure (p_pickf rfl rfl) rfl ?_
      refine g_pure (p_assign rfl) rfl ?_
      refine g_nil ?_
      refine g_qn ?_
      refine g_joined _ ⟨rfl, rfl, rfl, rfl, rfl, rfl, trivial⟩ (by repeat' (first | exact Cover.nil | exact Take.here | apply Cover.cons | apply Take.there)) ?_
      rw [show ([c] ++ as'.take 0).all (hasB (S0 6)) = hasB (S0 6) c by simp, has6]
      first | exact decide_eq_decide.2 (by omega) | exact (decide_eq_false (by omega)).symm
  rintro y0 hy0
  refine g_qt ?_
  refine g_seq ?_
  refine g_region ?_
  refine g_pure (p_assign rfl) rfl ?_
  refine g_pure (p_assign rfl) rfl ?_
  refine g_nil ?_
  refine g_qt ?_
  refine g_seq ?_
  refine g_seq ?_
  refine g_region ?_
  refine g_pure (p_assign rfl) rfl ?_
  refine g_nil ?_
  refine g_qt ?_
  refine g_block ?_
  refine g_ownnil (e := 27) (size := 1) ?_
  refine g_ownnil (e := 27) (size := 1) ?_
  refine g_loop (fun q : Nat × Option Addr × Nat × Bool => [(0, .int .i64 c), (1, .slice aa as'.length ac), (2, .slice ba bs.length bc), (3, .int .u8 inb), (9, .pointer (some ⟨p, 0, none⟩)), (11, .bool q.2.2.2), (12, .slice q.2.1 q.1 q.2.2.1), (13, .slice none 0 0), (14, .int .i64 q.1)])
    (fun q => [OwnSl 27 1 q.2.1 q.1 q.2.2.1 ((as'.take q.1).map encI), OwnSl 27 1 none 0 0 [], Gr p (S0 6)]) (fun q => q.1 ≤ as'.length ∧ q.2.2.2 = ([c] ++ as'.take q.1).all (hasB (S0 6))) (fun q => as'.length - q.1) (0, none, 0, y0) ⟨Nat.zero_le _, hy0⟩ (by (repeat (first | exact trivial | refine ⟨by rfl, ?_⟩)); done) (by repeat' (first | exact Cover.nil | exact Take.here | apply Cover.cons | apply Take.there)) ?_
  clear hy0 y0
  rintro ⟨k, xa, xc, y⟩ ⟨hk, hy⟩
  dsimp only at hk hy ⊢
  refine g_seq ?_
  refine g_seq ?_
  refine g_region ?_
  refine g_pure (p_move rfl) rfl ?_
  refine g_pure (p_move rfl) rfl ?_
  refine g_pure (p_len (by rfl) rfl) rfl ?_
  refine g_pure (p_lss rfl rfl) rfl ?_
  refine g_nil ?_
  refine g_qt ?_
  refine g_ifd rfl (fun q => ?_) (fun q => ?_)
  · have hkl : k < as'.length := by omega
    obtain ⟨r1, r2, r3⟩ := hra (by omega)
    have e3 := map_take_succ hkl encI
    have e3' : (as'.take k).map encI ++ [Value.int .i64 as'[k]] = (as'.take (k + 1)).map encI := e3
    have hsn := all_snoc hkl (hasB (S0 6)) [c]
    rw [← hy, has6] at hsn
    refine g_skip ?_
    refine g_qt ?_
    refine g_seq ?_
    refine g_block ?_
    refine g_seq ?_
    refine g_region ?_
    refine g_pure (p_move rfl) rfl ?_
    refine g_pure (p_move rfl) rfl ?_
    refine g_pure (p_move rfl) rfl ?_
    refine g_pure (p_indexAddr rfl rfl (by omega) (fun _ => r1)) rfl ?_
    refine g_pure (p_load (by rfl) rfl (Has.ro r2) (r3 k hkl)) rfl ?_
    refine g_eff (e_bs (xs := [.tmp 53]) rfl rfl rfl (by rfl) (by rfl) rfl (by rfl)) rfl (fun _ _ => ?_)
    rintro ⟨b54, rfl, rfl⟩
    refine g_eff (e_appendO (xs := (as'.take k).map encI) (a1 := xa) (k := k) (cap := xc) (by rfl) (by rfl) rfl rfl (by first | (apply Has.own; (repeat' (first | exact Take.here | apply Take.there)); done)) (by rfl) (by rfl) (by repeat' (first | exact Take.here | apply Take.there)) (by omega) (by dsimp only; omega) (by omega)) rfl (fun _ _ => ?_)
    rintro ⟨a55, c55, rfl, rfl⟩
    refine g_pure (p_assign rfl) rfl ?_
    refine g_nil ?_
    refine g_qt ?_
    refine g_region ?_
    refine g_pure (p_move rfl) rfl ?_
    refine g_pure (p_move rfl) rfl ?_
    rw [e3']
    cases y with
    | false =>
      refine g_no rfl rfl rfl rfl ?_
      refine g_no rfl rfl rfl rfl ?_
      refine g_no rfl rfl rfl rfl ?_
      refine g_no rfl rfl rfl rfl ?_
      refine g_no rfl rfl rfl rfl ?_
      first | refine g_pure (p_pickt rfl rfl) rfl ?_ | refine g_pure (p_pickf rfl rfl) rfl ?_
      refine g_pure (p_move rfl) rfl ?_
      refine g_no rfl rfl rfl rfl ?_
      refine g_no rfl rfl rfl rfl ?_
      refine g_no rfl rfl rfl rfl ?_
      refine g_no rfl rfl rfl rfl ?_
      refine g_no rfl rfl rfl rfl ?_
      first | refine g_pure (p_pickt rfl rfl) rfl ?_ | refine g_pure (p_pickf rfl rfl) rfl ?_
      refine g_pure (p_assign rfl) rfl ?_
      refine g_nil ?_
      refine g_qb ?_
      refine g_qt ?_
      refine g_region ?_
      refine g_pure (p_move rfl) rfl ?_
      first | refine g_pure (p_addi rfl rfl (by omega)) rfl ?_ | refine g_pure (p_add rfl rfl) rfl ?_
      refine g_pure (p_assign rfl) rfl ?_
      refine g_nil ?_
      refine g_qn ?_
      exact g_next (k + 1, a55, c55, false) (by (repeat (first | exact trivial | refine ⟨by rfl, ?_⟩)); done) (by repeat' (first | exact Cover.nil | exact Take.here | apply Cover.cons | apply Take.there)) ⟨by dsimp only; omega, by rw [hsn]; rfl⟩ (by dsimp only; omega)
    | true =>
      refine g_yes rfl rfl ?_
      refine g_pure (p_move rfl) rfl ?_
      refine g_yes rfl rfl ?_
      refine g_pure (p_move rfl) rfl ?_
      refine g_yes rfl rfl ?_
      refine g_pure (p_indexAddr rfl rfl (by omega) (fun _ => r1)) rfl ?_
      refine g_yes rfl rfl ?_
      refine g_pure (p_load (by rfl) rfl (Has.ro r2) (r3 k hkl)) rfl ?_
      refine g_yes rfl rfl ?_
      refine g_pure (p_geq rfl rfl) rfl ?_
      first | refine g_pure (p_pickt rfl rfl) rfl ?_ | refine g_pure (p_pickf rfl rfl) rfl ?_
      refine g_pure (p_move rfl) rfl ?_
      refine g_splitd rfl rfl (fun g => ?_) (fun g => ?_)
      · refine g_yes rfl rfl ?_
        refine g_pure (p_move rfl) rfl ?_
        refine g_yes rfl rfl ?_
        refine g_pure (p_move rfl) rfl ?_
        refine g_yes rfl rfl ?_
        refine g_pure (p_indexAddr rfl rfl (by omega) (fun _ => r1)) rfl ?_
        refine g_yes rfl rfl ?_
        refine g_pure (p_load (by rfl) rfl (Has.ro r2) (r3 k hkl)) rfl ?_
        refine g_yes rfl rfl ?_
        refine g_pure (p_lss rfl rfl) rfl ?_
        first | refine g_pure (p_pickt rfl rfl) rfl ?_ | refine g_pure (p_pickf rfl rfl) rfl ?_
        refine g_pure (p_assign rfl) rfl ?_
        refine g_nil ?_
        refine g_qb ?_
        refine g_qt ?_
        refine g_region ?_
        refine g_pure (p_move rfl) rfl ?_
        first | refine g_pure (p_addi rfl rfl (by omega)) rfl ?_ | refine g_pure (p_add rfl rfl) rfl ?_
        refine g_pure (p_assign rfl) rfl ?_
        refine g_nil ?_
        refine g_qn ?_
        exact g_next (k + 1, a55, c55, _) ⟨rfl, rfl, rfl, rfl, rfl, rfl, rfl, rfl, rfl, trivial⟩ (by repeat' (first | exact Cover.nil | exact Take.here | apply Cover.cons | apply Take.there)) ⟨by dsimp only; omega, by dsimp only; rw [hsn]; exact decide_eq_decide.2 (by omega)⟩ (by dsimp only; omega)
      · refine g_no rfl rfl rfl rfl ?_
        refine g_no rfl rfl rfl rfl ?_
        refine g_no rfl rfl rfl rfl ?_
        refine g_no rfl rfl rfl rfl ?_
        refine g_no rfl rfl rfl rfl ?_
        first | refine g_pure (p_pickt rfl rfl) rfl ?_ | refine g_pure (p_pickf rfl rfl) rfl ?_
        refine g_pure (p_assign rfl) rfl ?_
        refine g_nil ?_
        refine g_qb ?_
        refine g_qt ?_
        refine g_region ?_
        refine g_pure (p_move rfl) rfl ?_
        first | refine g_pure (p_addi rfl rfl (by omega)) rfl ?_ | refine g_pure (p_add rfl rfl) rfl ?_
        refine g_pure (p_assign rfl) rfl ?_
        refine g_nil ?_
        refine g_qn ?_
        exact g_next (k + 1, a55, c55, false) (by (repeat (first | exact trivial | refine ⟨by rfl, ?_⟩)); done) (by repeat' (first | exact Cover.nil | exact Take.here | apply Cover.cons | apply Take.there)) ⟨by dsimp only; omega, by dsimp only; rw [hsn]; exact (decide_eq_false (by omega)).symm⟩ (by dsimp only; omega)
  · have hke : k = as'.length := by omega
    subst hke
    rw [List.take_of_length_le (Nat.le_refl _)] at hy ⊢
    refine g_exit ?_
    refine g_qt_exit ?_
    refine g_qn_exit ?_
    refine g_qb_exit ?_
    refine g_qt ?_
    refine g_seq ?_
    refine g_seq ?_
    refine g_region ?_
    refine g_pure (p_assign rfl) rfl ?_
    refine g_nil ?_
    refine g_qt ?_
    refine g_block ?_
    refine g_loop (fun q : Nat × Option Addr × Nat × Bool => [(0, .int .i64 c), (1, .slice aa as'.length ac), (2, .slice ba bs.length bc), (3, .int .u8 inb), (9, .pointer (some ⟨p, 0, none⟩)), (11, .bool q.2.2.2), (12, .slice xa as'.length xc), (13, .slice q.2.1 q.1 q.2.2.1), (15, .int .i64 q.1)])
      (fun q => [OwnSl 27 1 q.2.1 q.1 q.2.2.1 ((bs.take q.1).map encI), OwnSl 27 1 xa as'.length xc (as'.map encI), Gr p (S0 6)]) (fun q => q.1 ≤ bs.length ∧ q.2.2.2 = (([c] ++ as') ++ bs.take q.1).all (hasB (S0 6))) (fun q => bs.length - q.1) (0, none, 0, y) ⟨Nat.zero_le _, by rw [hy]; simp⟩ (by (repeat (first | exact trivial | refine ⟨by rfl, ?_⟩)); done) (by repeat' (first | exact Cover.nil | exact Take.here | apply Cover.cons | apply Take.there)) ?_
    clear hy y
    rintro ⟨k, ya, yc, y⟩ ⟨hk, hy⟩
    dsimp only at hk hy ⊢
    refine g_seq ?_
    refine g_seq ?_
    refine g_region ?_
    refine g_pure (p_move rfl) rfl ?_
    refine g_pure (p_move rfl) rfl ?_
    refine g_pure (p_len (by rfl) rfl) rfl ?_
    refine g_pure (p_lss rfl rfl) rfl ?_
    refine g_nil ?_
    refine g_qt ?_
    refine g_ifd rfl (fun q => ?_) (fun q => ?_)
    · have hkl : k < bs.length := by omega
      obtain ⟨r1, r2, r3⟩ := hrb (by omega)
      have e3 := map_take_succ hkl encI
      have e3' : (bs.take k).map encI ++ [Value.int .i64 bs[k]] = (bs.take (k + 1)).map encI := e3
      have hsn := all_snoc hkl (hasB (S0 6)) ([c] ++ as')
      rw [← hy, has6] at hsn
      refine g_skip ?_
      refine g_qt ?_
      refine g_seq ?_
      refine g_block ?_
      refine g_seq ?_
      refine g_region ?_
      refine g_pure (p_move rfl) rfl ?_
      refine g_pure (p_move rfl) rfl ?_
      refine g_pure (p_move rfl) rfl ?_
      refine g_pure (p_indexAddr rfl rfl (by omega) (fun _ => r1)) rfl ?_
      refine g_pure (p_load (by rfl) rfl (Has.ro r2) (r3 k hkl)) rfl ?_
      refine g_eff (e_bs (xs := [.tmp 81]) rfl rfl rfl (by rfl) (by rfl) rfl (by rfl)) rfl (fun _ _ => ?_)
      rintro ⟨b82, rfl, rfl⟩
      refine g_eff (e_appendO (xs := (bs.take k).map encI) (a1 := ya) (k := k) (cap := yc) (by rfl) (by rfl) rfl rfl (by first | (apply Has.own; (repeat' (first | exact Take.here | apply Take.there)); done)) (by rfl) (by rfl) (by repeat' (first | exact Take.here | apply Take.there)) (by omega) (by dsimp only; omega) (by omega)) rfl (fun _ _ => ?_)
      rintro ⟨a83, c83, rfl, rfl⟩
      refine g_pure (p_assign rfl) rfl ?_
      refine g_nil ?_
      refine g_qt ?_
      refine g_region ?_
      refine g_pure (p_move rfl) rfl ?_
      refine g_pure (p_move rfl) rfl ?_
      rw [e3']
      cases y with
      | false =>
        refine g_no rfl rfl rfl rfl ?_
        refine g_no rfl rfl rfl rfl ?_
        refine g_no rfl rfl rfl rfl ?_
        refine g_no rfl rfl rfl rfl ?_
        refine g_no rfl rfl rfl rfl ?_
        first | refine g_pure (p_pickt rfl rfl) rfl ?_ | refine g_pure (p_pickf rfl rfl) rfl ?_
        refine g_pure (p_move rfl) rfl ?_
        refine g_no rfl rfl rfl rfl ?_
        refine g_no rfl rfl rfl rfl ?_
        refine g_no rfl rfl rfl rfl ?_
        refine g_no rfl rfl rfl rfl ?_
        refine g_no rfl rfl rfl rfl ?_
        first | refine g_pure (p_pickt rfl rfl) rfl ?_ | refine g_pure (p_pickf rfl rfl) rfl ?_
        refine g_pure (p_assign rfl) rfl ?_
        refine g_nil ?_
        refine g_qb ?_
        refine g_qt ?_
        refine g_region ?_
        refine g_pure (p_move rfl) rfl ?_
        first | refine g_pure (p_addi rfl rfl (by omega)) rfl ?_ | refine g_pure (p_add rfl rfl) rfl ?_
        refine g_pure (p_assign rfl) rfl ?_
        refine g_nil ?_
        refine g_qn ?_
        exact g_next (k + 1, a83, c83, false) (by (repeat (first | exact trivial | refine ⟨by rfl, ?_⟩)); done) (by repeat' (first | exact Cover.nil | exact Take.here | apply Cover.cons | apply Take.there)) ⟨by dsimp only; omega, by rw [hsn]; rfl⟩ (by dsimp only; omega)
      | true =>
        refine g_yes rfl rfl ?_
        refine g_pure (p_move rfl) rfl ?_
        refine g_yes rfl rfl ?_
        refine g_pure (p_move rfl) rfl ?_
        refine g_yes rfl rfl ?_
        refine g_pure (p_indexAddr rfl rfl (by omega) (fun _ => r1)) rfl ?_
        refine g_yes rfl rfl ?_
        refine g_pure (p_load (by rfl) rfl (Has.ro r2) (r3 k hkl)) rfl ?_
        refine g_yes rfl rfl ?_
        refine g_pure (p_geq rfl rfl) rfl ?_
        first | refine g_pure (p_pickt rfl rfl) rfl ?_ | refine g_pure (p_pickf rfl rfl) rfl ?_
        refine g_pure (p_move rfl) rfl ?_
        refine g_splitd rfl rfl (fun g => ?_) (fun g => ?_)
        · refine g_yes rfl rfl ?_
          refine g_pure (p_move rfl) rfl ?_
          refine g_yes rfl rfl ?_
          refine g_pure (p_move rfl) rfl ?_
          refine g_yes rfl rfl ?_
          refine g_pure (p_indexAddr rfl rfl (by omega) (fun _ => r1)) rfl ?_
          refine g_yes rfl rfl ?_
          refine g_pure (p_load (by rfl) rfl (Has.ro r2) (r3 k hkl)) rfl ?_
          refine g_yes rfl rfl ?_
          refine g_pure (p_lss rfl rfl) rfl ?_
          first | refine g_pure (p_pickt rfl rfl) rfl ?_ | refine g_pure (p_pickf rfl rfl) rfl ?_
          refine g_pure (p_assign rfl) rfl ?_
          refine g_nil ?_
          refine g_qb ?_
          refine g_qt ?_
          refine g_region ?_
          refine g_pure (p_move rfl) rfl ?_
          first | refine g_pure (p_addi rfl rfl (by omega)) rfl ?_ | refine g_pure (p_add rfl rfl) rfl ?_
          refine g_pure (p_assign rfl) rfl ?_
          refine g_nil ?_
          refine g_qn ?_
          exact g_next (k + 1, a83, c83, _) ⟨rfl, rfl, rfl, rfl, rfl, rfl, rfl, rfl, rfl, trivial⟩ (by repeat' (first | exact Cover.nil | exact Take.here | apply Cover.cons | apply Take.there)) ⟨by dsimp only; omega, by dsimp only; rw [hsn]; exact decide_eq_decide.2 (by omega)⟩ (by dsimp only; omega)
        · refine g_no rfl rfl rfl rfl ?_
          refine g_no rfl rfl rfl rfl ?_
          refine g_no rfl rfl rfl rfl ?_
          refine g_no rfl rfl rfl rfl ?_
          refine g_no rfl rfl rfl rfl ?_
          first | refine g_pure (p_pickt rfl rfl) rfl ?_ | refine g_pure (p_pickf rfl rfl) rfl ?_
          refine g_pure (p_assign rfl) rfl ?_
          refine g_nil ?_
          refine g_qb ?_
          refine g_qt ?_
          refine g_region ?_
          refine g_pure (p_move rfl) rfl ?_
          first | refine g_pure (p_addi rfl rfl (by omega)) rfl ?_ | refine g_pure (p_add rfl rfl) rfl ?_
          refine g_pure (p_assign rfl) rfl ?_
          refine g_nil ?_
          refine g_qn ?_
          exact g_next (k + 1, a83, c83, false) (by (repeat (first | exact trivial | refine ⟨by rfl, ?_⟩)); done) (by repeat' (first | exact Cover.nil | exact Take.here | apply Cover.cons | apply Take.there)) ⟨by dsimp only; omega, by dsimp only; rw [hsn]; exact (decide_eq_false (by omega)).symm⟩ (by dsimp only; omega)
    · have hke : k = bs.length := by omega
      subst hke
      rw [List.take_of_length_le (Nat.le_refl _)] at hy ⊢
      refine g_exit ?_
      refine g_qt_exit ?_
      refine g_qn_exit ?_
      refine g_qb_exit ?_
      refine g_qt ?_
      refine g_seq ?_
      refine g_region ?_
      refine g_pure (p_move rfl) rfl ?_
      refine g_pure (p_move rfl) rfl ?_
      refine g_pure (p_move rfl) rfl ?_
      refine g_pure (p_move rfl) rfl ?_
      by_cases hnm : as'.length = bs.length
      · obtain ⟨n, hn1⟩ : ∃ n, as'.length = n := ⟨_, rfl⟩
        have hn2 : bs.length = n := by omega
        rw [hn1] at ha ⊢
        rw [hn2] at hb ⊢
        have hn20 : n ≤ 20 := by omega
        cases y with
        | false =>
          refine g_call (Hin := [Gr p (S0 6)]) (Hr := ?hr4) (R := ?rr4) rfl rfl rfl ?hin4 ?hc4 ?hk4
          case hin4 => repeat' (first | exact Cover.nil | exact Take.here | apply Cover.cons | apply Take.there)
          case hc4 => intro ρ' hρ hR; exact mux_range p hw0 hc hn1 hn2 (by omega) (RSl.of_own (Take.ro (A := OwnSl 27 1 xa n xc (as'.map encI)) (by repeat' (first | exact Take.here | apply Take.there)) hR)) (RSl.of_own (Take.ro (A := OwnSl 27 1 ya n yc (bs.map encI)) (by repeat' (first | exact Take.here | apply Take.there)) hR)) hai hbi hy.symm
          rintro _ _ ⟨rfl, rfl⟩
          refine g_pure (p_move rfl) rfl ?_
          refine g_pure (p_extract rfl rfl) rfl ?_
          refine g_pure (p_extract rfl rfl) rfl ?_
          refine g_pure (p_assign rfl) rfl ?_
          refine g_pure (p_assign rfl) rfl ?_
          refine g_nil ?_
          refine g_qt ?_
          refine g_seq ?_
          refine g_seq ?_
          refine g_region ?_
          refine g_pure (p_move rfl) rfl ?_
          refine g_pure (p_len (by rfl) rfl) rfl ?_
          refine g_pure (p_move rfl) rfl ?_
          refine g_pure (p_len (by rfl) rfl) rfl ?_
          refine g_pure (p_neqF rfl rfl rfl) rfl ?_
          refine g_nil ?_
          refine g_qt ?_
          refine g_iff rfl ?_
          refine g_skip ?_
          refine g_qt ?_
          refine g_seq ?_
          refine g_seq ?_
          refine g_region ?_
          refine g_pure (p_move rfl) rfl ?_
          refine g_pure (p_not rfl) rfl ?_
          refine g_nil ?_
          refine g_qt ?_
          refine g_ift rfl ?_
          refine g_seq ?_
          refine g_region ?_
          refine g_pure (p_move rfl) rfl ?_
          refine g_pure (p_eqlT rfl rfl rfl) rfl ?_
          refine g_pure (p_move rfl) rfl ?_
          refine g_yes rfl rfl ?_
          refine g_pure (p_move rfl) rfl ?_
          refine g_yes rfl rfl ?_
          refine g_pure (p_len (by rfl) rfl) rfl ?_
          refine g_yes rfl rfl ?_
          refine g_pure (p_eqlT rfl rfl rfl) rfl ?_
          first | refine g_pure (p_pickt rfl rfl) rfl ?_ | refine g_pure (p_pickf rfl rfl) rfl ?_
          refine g_pure (p_move rfl) rfl ?_
          refine g_yes rfl rfl ?_
          refine g_pure (p_move rfl) rfl ?_
          refine g_yes rfl rfl ?_
          refine g_call (Hin := []) (Hr := ?hr5) (R := ?rr5) rfl rfl rfl ?hin5 ?hc5 ?hk5
          case hin5 => repeat' (first | exact Cover.nil | exact Take.here | apply Cover.cons | apply Take.there)
          case hc5 => intro ρ' hρ hR; exact glen_ok p (S0 6) (Take.ro (A := Gr p (S0 6)) (by repeat' (first | exact Take.here | apply Take.there)) hR)
          rintro _ _ ⟨rfl, rfl⟩
          refine g_yes rfl rfl ?_
          refine g_pure (p_eqlT rfl rfl rfl) rfl ?_
          first | refine g_pure (p_pickt rfl rfl) rfl ?_ | refine g_pure (p_pickf rfl rfl) rfl ?_
          refine g_pure (p_move rfl) rfl ?_
          refine g_yes rfl rfl ?_
          refine g_call (Hin := []) (Hr := ?hr6) (R := ?rr6) rfl rfl rfl ?hin6 ?hc6 ?hk6
          case hin6 => repeat' (first | exact Cover.nil | exact Take.here | apply Cover.cons | apply Take.there)
          case hc6 => intro ρ' hρ hR; exact blives_ok
          rintro _ _ ⟨rfl, rfl⟩
          first | refine g_pure (p_pickt rfl rfl) rfl ?_ | refine g_pure (p_pickf rfl rfl) rfl ?_
          refine g_pure (p_assign rfl) rfl ?_
          refine g_nil ?_
          refine g_qt ?_
          refine g_ret ?_
          refine g_qt_ret ?_
          exact g_post (Ho := []) (rs := [.tmp 8]) rfl (.tmp rfl .nil) rfl .nil
        | true =>
          refine g_call (Hin := [Gr p (S0 6)]) (Hr := ?hr7) (R := ?rr7) rfl rfl rfl ?hin7 ?hc7 ?hk7
          case hin7 => repeat' (first | exact Cover.nil | exact Take.here | apply Cover.cons | apply Take.there)
          case hc7 => intro ρ' hρ hR; exact mux_yes p hw0 (by omega) hn1 hn2 (by omega) (RSl.of_own (Take.ro (A := OwnSl 27 1 xa n xc (as'.map encI)) (by repeat' (first | exact Take.here | apply Take.there)) hR)) (RSl.of_own (Take.ro (A := OwnSl 27 1 ya n yc (bs.map encI)) (by repeat' (first | exact Take.here | apply Take.there)) hR)) hy.symm
          rintro _ _ ⟨oa, oc, out, T, rfl, rfl, ho, u, d⟩
          have hall := List.all_eq_true.1 hy.symm
          have hch : has (S0 6) c := hasB_iff.1 (hall c (by simp))
          have dc : Den (S0 6) c (fun i => litv (vals (S0 6) i) c) := ⟨hch, fun _ => rfl⟩
          have dx : DenL (S0 6) as' (fun i => as'.map (litv (vals (S0 6) i))) := den_self fun l h => hasB_iff.1 (hall l (by simp [h]))
          have dy : DenL (S0 6) bs (fun i => bs.map (litv (vals (S0 6) i))) := den_self fun l h => hasB_iff.1 (hall l (by simp [h]))
          have dall := (((DenL.one dc).app dx).app dy).up hw0 u |>.app d
          refine g_pure (p_move rfl) rfl ?_
          refine g_pure (p_extract rfl rfl) rfl ?_
          refine g_pure (p_extract rfl rfl) rfl ?_
          refine g_pure (p_assign rfl) rfl ?_
          refine g_pure (p_assign rfl) rfl ?_
          refine g_nil ?_
          refine g_qt ?_
          refine g_seq ?_
          refine g_seq ?_
          refine g_region ?_
          refine g_pure (p_move rfl) rfl ?_
          refine g_pure (p_len (by rfl) rfl) rfl ?_
          refine g_pure (p_move rfl) rfl ?_
          refine g_pure (p_len (by rfl) rfl) rfl ?_
          refine g_pure (p_neqF rfl rfl rfl) rfl ?_
          refine g_nil ?_
          refine g_qt ?_
          refine g_iff rfl ?_
          refine g_skip ?_
          refine g_qt ?_
          refine g_seq ?_
          refine g_seq ?_
          refine g_region ?_
          refine g_pure (p_move rfl) rfl ?_
          refine g_pure (p_not rfl) rfl ?_
          refine g_nil ?_
          refine g_qt ?_
          refine g_iff rfl ?_
          refine g_skip ?_
          refine g_qt ?_
          refine g_seq ?_
          refine g_region ?_
          refine g_pure (p_move rfl) rfl ?_
          first | refine g_pure (p_convi (by rfl) rfl (by omega)) rfl ?_ | refine g_pure (p_conv (by rfl) rfl) rfl ?_
          refine g_call (Hin := []) (Hr := ?hr8) (R := ?rr8) rfl rfl rfl ?hin8 ?hc8 ?hk8
          case hin8 => repeat' (first | exact Cover.nil | exact Take.here | apply Cover.cons | apply Take.there)
          case hc8 => intro ρ' hρ hR; exact dbits_ok inb (by unfold I64; omega) 6 (by omega)
          rintro _ _ ⟨ea, ec, rfl, rfl⟩
          refine g_pure (p_assign rfl) rfl ?_
          refine g_nil ?_
          refine g_qt ?_
          refine g_seq ?_
          refine g_region ?_
          refine g_pure (p_move rfl) rfl ?_
          refine g_pure (p_move rfl) rfl ?_
          refine g_pure (p_move rfl) rfl ?_
          refine g_eff (e_bs (xs := [.tmp 145]) rfl rfl rfl (by rfl) (by rfl) rfl (by rfl)) rfl (fun _ _ => ?_)
          rintro ⟨b146, rfl, rfl⟩
          refine g_pure (p_move rfl) rfl ?_
          refine own_of_lit (e := 27) (b := b146) (v := .int .i64 c) (by repeat' (first | exact Take.here | apply Take.there)) ?_
          refine g_eff (e_appendS (news := as'.map encI) (by rfl) (by rfl) rfl rfl (slAt_own (xs := as'.map encI) (a := xa) (k := n) (cap := xc) (by repeat' (first | exact Take.here | apply Take.there))) (ones _) (xs := [.int .i64 c]) (by repeat' (first | exact Take.here | apply Take.there)) (by dsimp only; omega) (by omega)) rfl (fun _ _ => ?_)
          rintro ⟨f1, g1, rfl, rfl⟩
          refine g_pure (p_move rfl) rfl ?_
          refine g_eff (e_appendS (news := bs.map encI) (by rfl) (by rfl) rfl rfl (slAt_own (xs := bs.map encI) (a := ya) (k := n) (cap := yc) (by repeat' (first | exact Take.here | apply Take.there))) (ones _) (xs := [.int .i64 c] ++ as'.map encI) (by repeat' (first | exact Take.here | apply Take.there)) (by dsimp only; omega) (by omega)) rfl (fun _ _ => ?_)
          rintro ⟨f2, g2, rfl, rfl⟩
          refine g_pure (p_move rfl) rfl ?_
          refine g_eff (e_appendS (news := out.map encI) (by rfl) (by rfl) rfl rfl (slAt_own (xs := out.map encI) (a := oa) (k := n) (cap := oc) (by repeat' (first | exact Take.here | apply Take.there))) (ones _) (xs := [.int .i64 c] ++ as'.map encI ++ bs.map encI) (by repeat' (first | exact Take.here | apply Take.there)) (by dsimp only; omega) (by omega)) rfl (fun _ _ => ?_)
          rintro ⟨f3, g3, rfl, rfl⟩
          have eall : [Value.int .i64 c] ++ as'.map encI ++ bs.map encI ++ out.map encI = ([c] ++ as' ++ bs ++ out).map encI := by simp [encI]
          have hlen : ([c] ++ as' ++ bs ++ out).length = 1 + n + n + n := by simp; omega
          rw [eall]
          have hinp : (bitsR 6 inb).length = 6 := bitsR_len 6 inb
          have hev := eval_up u hinp dall
          have hAl : (as'.map (litv (vals (S0 6) (bitsR 6 inb)))).length = n := by rw [List.length_map]; exact hn1
          have hBl : (bs.map (litv (vals (S0 6) (bitsR 6 inb)))).length = n := by rw [List.length_map]; exact hn2
          rw [muxF_eq _ (by rw [hAl, hBl])] at hev
          generalize as'.map (litv (vals (S0 6) (bitsR 6 inb))) = A at hAl hev
          generalize bs.map (litv (vals (S0 6) (bitsR 6 inb))) = B at hBl hev
          generalize litv (vals (S0 6) (bitsR 6 inb)) c = bit at hev
          obtain ⟨C, hC⟩ : ∃ C, C = if bit then A else B := ⟨_, rfl⟩
          rw [← hC] at hev
          have hCl : C.length = n := by rw [hC]; split <;> assumption
          generalize [c] ++ as' ++ bs ++ out = lall at hlen dall hev ⊢
          have hPl : ([bit] ++ A ++ B ++ C).length = 1 + n + n + n := by simp; omega
          have hP1 : (([bit] ++ A ++ B ++ C).drop 1).take n = A := by rw [← hAl]; simp
          have hP2 : (([bit] ++ A ++ B ++ C).drop (1 + n)).take n = B := by
            rw [show 1 + n = ([bit] ++ A).length by simp; omega, List.append_assoc ([bit] ++ A), List.drop_left, ← hBl, List.take_left]
          have hP3 : (([bit] ++ A ++ B ++ C).drop (1 + 2 * n)).take n = C := by
            rw [show 1 + 2 * n = ([bit] ++ A ++ B).length by simp; omega, List.drop_left, ← hCl, List.take_length]
          have hP0 : (([bit] ++ A ++ B ++ C).map encB)[0]? = some (.bool bit) := rfl
          generalize [bit] ++ A ++ B ++ C = P at hev hPl hP1 hP2 hP3 hP0
          refine g_call (Hin := []) (Hr := ?hr9) (R := ?rr9) rfl rfl rfl ?hin9 ?hc9 ?hk9
          case hin9 => repeat' (first | exact Cover.nil | exact Take.here | apply Cover.cons | apply Take.there)
          case hc9 => intro ρ' hρ hR; exact (by have := eval_at (ρ := ρ') (p := p) (ia := ea) (ic := ec) (al := f3) (cl := g3) hev (by rw [hinp]; exact RSl.of_own (Take.ro (A := OwnSl 4 1 ea 6 ec ((bitsR 6 inb).map encB)) (by repeat' (first | exact Take.here | apply Take.there)) hR)) (by rw [hlen]; exact RSl.of_own (Take.ro (A := OwnSl 27 1 f3 (1 + n + n + n) g3 (lall.map encI)) (by repeat' (first | exact Take.here | apply Take.there)) hR)) (by omega) (by omega) (i64_of u.wf dall) (Take.ro (A := Gr p T) (by repeat' (first | exact Take.here | apply Take.there)) hR); rw [hinp, hlen, hPl] at this; exact this)
          rintro _ _ ⟨pa, pc, rfl, rfl⟩
          refine g_pure (p_move rfl) rfl ?_
          refine g_pure (p_extract rfl rfl) rfl ?_
          refine g_pure (p_extract rfl rfl) rfl ?_
          refine g_pure (p_assign rfl) rfl ?_
          refine g_pure (p_assign rfl) rfl ?_
          refine g_nil ?_
          refine g_qt ?_
          refine g_seq ?_
          refine g_seq ?_
          refine g_region ?_
          refine g_pure (p_move rfl) rfl ?_
          refine g_pure (p_neqF rfl rfl rfl) rfl ?_
          refine g_pure (p_move rfl) rfl ?_
          refine g_yes rfl rfl ?_
          refine g_pure (p_move rfl) rfl ?_
          refine g_yes rfl rfl ?_
          refine g_pure (p_neqF rfl rfl rfl) rfl ?_
          first | refine g_pure (p_pickt rfl rfl) rfl ?_ | refine g_pure (p_pickf rfl rfl) rfl ?_
          refine g_pure (p_move rfl) rfl ?_
          refine g_yes rfl rfl ?_
          refine g_pure (p_move rfl) rfl ?_
          refine g_yes rfl rfl ?_
          refine g_pure (p_len (by rfl) rfl) rfl ?_
          refine g_yes rfl rfl ?_
          refine g_pure (p_move rfl) rfl ?_
          refine g_yes rfl rfl ?_
          refine g_pure (p_len (by rfl) rfl) rfl ?_
          refine g_yes rfl rfl ?_
          refine g_pure (p_neqF rfl rfl rfl) rfl ?_
          first | refine g_pure (p_pickt rfl rfl) rfl ?_ | refine g_pure (p_pickf rfl rfl) rfl ?_
          refine g_pure (p_move rfl) rfl ?_
          refine g_yes rfl rfl ?_
          refine g_pure (p_move rfl) rfl ?_
          refine g_yes rfl rfl ?_
          refine g_pure (p_len (by rfl) rfl) rfl ?_
          refine g_yes rfl rfl ?_
          refine g_pure (p_move rfl) rfl ?_
          refine g_yes rfl rfl ?_
          refine g_pure (p_len (by rfl) rfl) rfl ?_
          refine g_yes rfl rfl ?_
          first | refine g_pure (p_muli rfl rfl (by omega)) rfl ?_ | refine g_pure (p_mul rfl rfl) rfl ?_
          refine g_yes rfl rfl ?_
          first | refine g_pure (p_addi rfl rfl (by omega)) rfl ?_ | refine g_pure (p_add rfl rfl) rfl ?_
          refine g_yes rfl rfl ?_
          refine g_pure (p_neqF rfl rfl (by omega)) rfl ?_
          first | refine g_pure (p_pickt rfl rfl) rfl ?_ | refine g_pure (p_pickf rfl rfl) rfl ?_
          refine g_nil ?_
          refine g_qt ?_
          refine g_iff rfl ?_
          refine g_skip ?_
          refine g_qt ?_
          refine g_seq ?_
          refine g_region ?_
          refine g_pure (p_move rfl) rfl ?_
          refine g_pure (p_len (by rfl) rfl) rfl ?_
          refine g_pure (p_assign rfl) rfl ?_
          refine g_nil ?_
          refine g_qt ?_
          refine g_seq ?_
          refine g_seq ?_
          refine g_own (e := 4) (a1 := pa) (k := 1 + n + n + n) (cap := pc) (xs := P.map encB) (by repeat' (first | exact Take.here | apply Take.there)) (fun _ h2 _ _ => absurd h2 (by omega)) ?_
          rintro gp curp rfl x1 x2 x3 x4 x5
          have hx0 : curp[0 + (0 : Int).toNat * 1]? = some (.bool bit) := own_at (k := 0) x4 rfl hP0
          refine g_region ?_
          refine g_pure (p_move rfl) rfl ?_
          refine g_pure (p_indexAddr rfl rfl (by omega) (fun _ => rfl)) rfl ?_
          refine g_pure (p_load (by rfl) rfl (Has.own (by repeat' (first | exact Take.here | apply Take.there))) hx0) rfl ?_
          refine g_nil ?_
          refine g_qt ?_
          refine g_fold (e := 4) (g := gp) (k := 1 + n + n + n) (cap := pc) (size := 1) (xs := P.map encB) (by repeat' (first | exact Take.here | apply Take.there)) x1 x2 x3 x4 ?_
          have t12 : (1 + 2 * (n : Int)).toNat = 1 + 2 * n := by omega
          have t1n : (1 + (n : Int)).toNat = 1 + n := by omega
          cases bit with
          | true =>
            obtain rfl : C = A := hC
            refine g_ift rfl ?_
            refine g_seq ?_
            refine m_begin0 (.fl 0 0 (.fl 1 0 (.fl 2 0 (.fl 3 0 (.fl 4 0 (.fl 5 0 (.fl 6 0 (.fl 7 0 (.fl 8 0 (.ef 9 (.fl 10 0 (.ef 11 (.fl 12 0 (.fl 13 0 .done)))))))))))))) (by kernel_rfl) (by kernel_rfl) ?_
            refine m_float0 rfl (fun _ _ => p_move rfl) rfl ?_
            refine m_float0 rfl (fun _ _ => p_move rfl) rfl ?_
            first | refine m_float0 rfl (fun _ _ => p_muli rfl rfl (by omega)) rfl ?_ | refine m_float0 rfl (fun _ _ => p_mul rfl rfl) rfl ?_
            first | refine m_float0 rfl (fun _ _ => p_addi rfl rfl (by omega)) rfl ?_ | refine m_float0 rfl (fun _ _ => p_add rfl rfl) rfl ?_
            refine m_float0 rfl (fun _ _ => p_slicel rfl rfl (by omega)) rfl ?_
            refine m_float0 rfl (fun _ _ => p_move rfl) rfl ?_
            refine m_float0 rfl (fun _ _ => p_move rfl) rfl ?_
            first | refine m_float0 rfl (fun _ _ => p_addi rfl rfl (by omega)) rfl ?_ | refine m_float0 rfl (fun _ _ => p_add rfl rfl) rfl ?_
            refine m_float0 rfl (fun _ _ => p_slicelh rfl rfl rfl (by omega) (by omega)) rfl ?_
            rw [t12, t1n, show 1 + n + n + n - (1 + 2 * n) = n by omega, show 1 + n - (1 : Int).toNat = n by show 1 + n - 1 = n; omega]
            refine m_call (Hin := []) (Hr := ?hr10) (R := ?rr10) rfl wantedN rfl rfl rfl ?hin10 ?hc10 ?hk10
            case hin10 => repeat' (first | exact Cover.nil | exact Take.here | apply Cover.cons | apply Take.there)
            case hc10 => intro ρ' hρ hR; exact bools_n hAl rfl (by have := rsl_sub (o := 1 + 2 * n) (k := n) (ad := if pc = 1 + 2 * n then some ⟨gp, 0, none⟩ else (some ⟨gp, 0, none⟩ : Option Addr).map (·.add ((1 + 2 * n) * 1))) (RSl.of_own (Take.ro (A := OwnSl 4 1 (some ⟨gp, 0, none⟩) (1 + n + n + n) pc (P.map encB)) (by repeat' (first | exact Take.here | apply Take.there)) hR)) (by omega) (fun h => if_neg (by omega)); rw [← List.map_drop, ← List.map_take, hP3] at this; exact this) (by have := rsl_sub (o := 1) (k := n) (ad := if pc = 1 then some ⟨gp, 0, none⟩ else (some ⟨gp, 0, none⟩ : Option Addr).map (·.add (1 * 1))) (RSl.of_own (Take.ro (A := OwnSl 4 1 (some ⟨gp, 0, none⟩) (1 + n + n + n) pc (P.map encB)) (by repeat' (first | exact Take.here | apply Take.there)) hR)) (by omega) (fun h => if_neg (by omega)); rw [← List.map_drop, ← List.map_take, hP1] at this; exact this) (by omega)
            rintro _ _ ⟨rfl, rfl⟩
            refine ⟨.none (by kernel_rfl), ?_⟩
            refine m_float0 rfl (fun _ _ => p_move rfl) rfl ?_
            refine m_call (Hin := []) (Hr := ?hr11) (R := ?rr11) rfl (wantedY rfl rfl) rfl rfl rfl ?hin11 ?hc11 ?hk11
            case hin11 => repeat' (first | exact Cover.nil | exact Take.here | apply Cover.cons | apply Take.there)
            case hc11 => intro ρ' hρ hR; exact blives_ok
            rintro _ _ ⟨rfl, rfl⟩
            refine ⟨.none (by kernel_rfl), ?_⟩
            first | refine m_float0 rfl (fun _ _ => p_pickt rfl rfl) rfl ?_ | refine m_float0 rfl (fun _ _ => p_pickf rfl rfl) rfl ?_
            refine m_float0 rfl (fun _ _ => p_assign rfl) rfl ?_
            refine m_nil ?_
            refine g_qt ?_
            refine g_ret ?_
            refine g_qt_ret ?_
            exact g_post (Ho := []) (rs := [.tmp 8]) rfl (.tmp rfl .nil) rfl .nil
          | false =>
            obtain rfl : C = B := hC
            refine g_iff rfl ?_
            refine g_skip ?_
            refine g_qt ?_
            refine g_seq ?_
            refine m_begin0 (.fl 0 0 (.fl 1 0 (.fl 2 0 (.fl 3 0 (.fl 4 0 (.fl 5 0 (.fl 6 0 (.fl 7 0 (.fl 8 0 (.fl 9 0 (.fl 10 0 (.fl 11 0 (.ef 12 (.fl 13 0 (.ef 14 (.fl 15 0 (.fl 16 0 .done))))))))))))))))) (by kernel_rfl) (by kernel_rfl) ?_
            refine m_float0 rfl (fun _ _ => p_move rfl) rfl ?_
            refine m_float0 rfl (fun _ _ => p_move rfl) rfl ?_
            first | refine m_float0 rfl (fun _ _ => p_muli rfl rfl (by omega)) rfl ?_ | refine m_float0 rfl (fun _ _ => p_mul rfl rfl) rfl ?_
            first | refine m_float0 rfl (fun _ _ => p_addi rfl rfl (by omega)) rfl ?_ | refine m_float0 rfl (fun _ _ => p_add rfl rfl) rfl ?_
            refine m_float0 rfl (fun _ _ => p_slicel rfl rfl (by omega)) rfl ?_
            refine m_float0 rfl (fun _ _ => p_move rfl) rfl ?_
            refine m_float0 rfl (fun _ _ => p_move rfl) rfl ?_
            first | refine m_float0 rfl (fun _ _ => p_addi rfl rfl (by omega)) rfl ?_ | refine m_float0 rfl (fun _ _ => p_add rfl rfl) rfl ?_
            refine m_float0 rfl (fun _ _ => p_move rfl) rfl ?_
            first | refine m_float0 rfl (fun _ _ => p_muli rfl rfl (by omega)) rfl ?_ | refine m_float0 rfl (fun _ _ => p_mul rfl rfl) rfl ?_
            first | refine m_float0 rfl (fun _ _ => p_addi rfl rfl (by omega)) rfl ?_ | refine m_float0 rfl (fun _ _ => p_add rfl rfl) rfl ?_
            refine m_float0 rfl (fun _ _ => p_slicelh rfl rfl rfl (by omega) (by omega)) rfl ?_
            rw [t12, t1n, show 1 + n + n + n - (1 + 2 * n) = n by omega, show 1 + 2 * n - (1 + n) = n by omega]
            refine m_call (Hin := []) (Hr := ?hr12) (R := ?rr12) rfl wantedN rfl rfl rfl ?hin12 ?hc12 ?hk12
            case hin12 => repeat' (first | exact Cover.nil | exact Take.here | apply Cover.cons | apply Take.there)
            case hc12 => intro ρ' hρ hR; exact bools_n hBl rfl (by have := rsl_sub (o := 1 + 2 * n) (k := n) (ad := if pc = 1 + 2 * n then some ⟨gp, 0, none⟩ else (some ⟨gp, 0, none⟩ : Option Addr).map (·.add ((1 + 2 * n) * 1))) (RSl.of_own (Take.ro (A := OwnSl 4 1 (some ⟨gp, 0, none⟩) (1 + n + n + n) pc (P.map encB)) (by repeat' (first | exact Take.here | apply Take.there)) hR)) (by omega) (fun h => if_neg (by omega)); rw [← List.map_drop, ← List.map_take, hP3] at this; exact this) (by have := rsl_sub (o := 1 + n) (k := n) (ad := if pc = 1 + n then some ⟨gp, 0, none⟩ else (some ⟨gp, 0, none⟩ : Option Addr).map (·.add ((1 + n) * 1))) (RSl.of_own (Take.ro (A := OwnSl 4 1 (some ⟨gp, 0, none⟩) (1 + n + n + n) pc (P.map encB)) (by repeat' (first | exact Take.here | apply Take.there)) hR)) (by omega) (fun h => if_neg (by omega)); rw [← List.map_drop, ← List.map_take, hP2] at this; exact this) (by omega)
            rintro _ _ ⟨rfl, rfl⟩
            refine ⟨.none (by kernel_rfl), ?_⟩
            refine m_float0 rfl (fun _ _ => p_move rfl) rfl ?_
            refine m_call (Hin := []) (Hr := ?hr13) (R := ?rr13) rfl (wantedY rfl rfl) rfl rfl rfl ?hin13 ?hc13 ?hk13
            case hin13 => repeat' (first | exact Cover.nil | exact Take.here | apply Cover.cons | apply Take.there)
            case hc13 => intro ρ' hρ hR; exact blives_ok
            rintro _ _ ⟨rfl, rfl⟩
            refine ⟨.none (by kernel_rfl), ?_⟩
            first | refine m_float0 rfl (fun _ _ => p_pickt rfl rfl) rfl ?_ | refine m_float0 rfl (fun _ _ => p_pickf rfl rfl) rfl ?_
            refine m_float0 rfl (fun _ _ => p_assign rfl) rfl ?_
            refine m_nil ?_
            refine g_qt ?_
            refine g_ret ?_
            exact g_post (Ho := []) (rs := [.tmp 8]) rfl (.tmp rfl .nil) rfl .nil
      · refine g_call (Hin := [Gr p (S0 6)]) (Hr := ?hr14) (R := ?rr14) rfl rfl rfl ?hin14 ?hc14 ?hk14
        case hin14 => repeat' (first | exact Cover.nil | exact Take.here | apply Cover.cons | apply Take.there)
        case hc14 => intro ρ' hρ hR; exact mux_match p hnm
        rintro _ _ ⟨rfl, rfl⟩
        refine g_pure (p_move rfl) rfl ?_
        refine g_pure (p_extract rfl rfl) rfl ?_
        refine g_pure (p_extract rfl rfl) rfl ?_
        refine g_pure (p_assign rfl) rfl ?_
        refine g_pure (p_assign rfl) rfl ?_
        refine g_nil ?_
        refine g_qt ?_
        refine g_seq ?_
        refine g_seq ?_
        refine g_region ?_
        refine g_pure (p_move rfl) rfl ?_
        refine g_pure (p_len (by rfl) rfl) rfl ?_
        refine g_pure (p_move rfl) rfl ?_
        refine g_pure (p_len (by rfl) rfl) rfl ?_
        refine g_pure (p_neqT rfl rfl (by omega)) rfl ?_
        refine g_nil ?_
        refine g_qt ?_
        refine g_ift rfl ?_
        refine g_seq ?_
        refine g_region ?_
        refine g_pure (p_move rfl) rfl ?_
        refine g_pure (p_eqlT rfl rfl rfl) rfl ?_
        refine g_pure (p_move rfl) rfl ?_
        refine g_yes rfl rfl ?_
        refine g_pure (p_move rfl) rfl ?_
        refine g_yes rfl rfl ?_
        refine g_pure (p_len (by rfl) rfl) rfl ?_
        refine g_yes rfl rfl ?_
        refine g_pure (p_eqlT rfl rfl rfl) rfl ?_
        first | refine g_pure (p_pickt rfl rfl) rfl ?_ | refine g_pure (p_pickf rfl rfl) rfl ?_
        refine g_pure (p_move rfl) rfl ?_
        refine g_yes rfl rfl ?_
        refine g_call (Hin := []) (Hr := ?hr15) (R := ?rr15) rfl rfl rfl ?hin15 ?hc15 ?hk15
        case hin15 => repeat' (first | exact Cover.nil | exact Take.here | apply Cover.cons | apply Take.there)
        case hc15 => intro ρ' hρ hR; exact blives_ok
        rintro _ _ ⟨rfl, rfl⟩
        first | refine g_pure (p_pickt rfl rfl) rfl ?_ | refine g_pure (p_pickf rfl rfl) rfl ?_
        refine g_pure (p_assign rfl) rfl ?_
        refine g_nil ?_
        refine g_qt ?_
        refine g_ret ?_
        refine g_qt_ret ?_
        exact g_post (Ho := []) (rs := [.tmp 8]) rfl (.tmp rfl .nil) rfl .nil
end Go.Proofs.Ytkebblmmgcgjkaa
