/- Chapter 4: the first shortest cycle. Conditions: none. -/
import Derived.Test.YtmefecnjliadaaaN9
namespace Go.Z.Gr
set_option maxRecDepth 8000
set_option linter.unusedVariables false
set_option linter.unusedSimpArgs false
set_option linter.unusedSectionVars false
open Go Go.Z
def revE (E : Ed) : Ed := E.map fun e => (e.2, e.1)
theorem revE_mem {E : Ed} {a b : Int} : (a, b) ∈ revE E ↔ (b, a) ∈ E := by
  unfold revE
  rw [List.mem_map]
  constructor
  · rintro ⟨⟨x, y⟩, h1, h2⟩
    injection h2 with h2 h3
    dsimp only at h2 h3
    subst h2 h3; exact h1
  · intro h
    exact ⟨(b, a), h, rfl⟩
theorem revE_ok {n : Nat} {E : Ed} (h : EdOk n E) : EdOk n (revE E) := fun e he => by
  have := h (e.2, e.1) (revE_mem.1 he)
  exact ⟨this.2, this.1⟩
theorem revE_len (E : Ed) : (revE E).length = E.length := by simp [revE]
theorem revE_snoc (E : Ed) (e : Int × Int) : revE (E ++ [e]) = revE E ++ [(e.2, e.1)] := by simp [revE]
theorem flatE_snoc (E : Ed) (a b : Int) : flatE (E ++ [(a, b)]) = flatE E ++ [.int .i64 a, .int .i64 b] := by rw [flatE_append]; rfl
theorem pathP_len (nb : Int → List Int) (d : List Int) (v : Int) : ∀ k at_, (pathP nb d v k at_).length ≤ k
  | 0, _ => Nat.le_refl _
  | k + 1, at_ => by
    unfold pathP
    split
    · rename_i w _
      have := pathP_len nb d v k w
      rw [List.length_cons]; omega
    · exact Nat.zero_le _
theorem aroundM_len (nb : Int → List Int) (d : List Int) (v : Int) {most : Int} (h : 1 ≤ most) : ((aroundM nb d v most).length : Int) ≤ most := by
  unfold aroundM
  split
  · simp; omega
  · have h1 := pathP_len nb d v ((bestP d v (nb v) most) - 1).toNat v
    have h2 := bestP_le d v (nb v) most
    rw [List.length_cons]; omega
def cycleA (n : Int) (E : Ed) : List Int × Int := if validP n E [] then (if cycleP E n.toNat = [] then ([], 8) else (cycleP E n.toNat, 0)) else ([], 2)
end Go.Z.Gr
namespace Go.Proofs.Ytmefecnjliadaaa
set_option maxRecDepth 8000
set_option linter.unusedVariables false
set_option linter.unusedSimpArgs false
set_option linter.unusedSectionVars false
open Go Go.Z Go.Z.Gr
theorem cycle_ok {ρ : Nat → Obj → Prop} (n : Int) (a : Option Addr) (c : Nat) (E : Ed) (hE : EdR ρ a E) (hlE : E.length ≤ 1000000) :
    Con Try.prog ρ 14 #[.int .i64 n, .slice a E.length c] [] (fun r H => ∃ a' c', r = .tuple #[.slice a' (cycleA n E).1.length c', .int .i64 (cycleA n E).2] ∧ H = [OwnSl 3 1 a' (cycleA n E).1.length c' ((cycleA n E).1.map Z.encI)]) := by
  refine con_intro Try.func14 Try.call14 rfl Try.ntmps14 rfl (L := [(0, _), (1, _)]) rfl fun w hh => ?_
  refine g_seq ?_
  refine g_region ?_
  refine g_pure (p_assign rfl) rfl ?_
  refine g_pure (p_assign rfl) rfl ?_
  refine g_nil ?_
  refine g_qt ?_
  refine g_seq ?_
  refine g_seq ?_
  refine g_region ?_
  refine g_pure (p_move rfl) rfl ?_
  refine g_pure (p_move rfl) rfl ?_
  refine g_call (Hin := []) (Hr := ?hr1) (R := ?rr1) rfl rfl rfl ?hin1 ?hc1 ?hk1
  case hin1 => repeat' (first | exact Cover.nil | exact Take.here | apply Cover.cons | apply Take.there)
  case hc1 => intro ρ' hρ hR; exact valid_ok n a c E (hE.mono hρ) (by omega) none 0 [] rsl_nil (by decide)
  rintro _ _ ⟨rfl, rfl⟩
  refine g_pure (p_not rfl) rfl ?_
  refine g_nil ?_
  refine g_qt ?_
  cases hv : validP n E [] with
  | false =>
    refine g_ift rfl ?_
    refine g_seq ?_
    refine g_region ?_
    refine g_pure (p_assign rfl) rfl ?_
    refine g_pure (p_assign rfl) rfl ?_
    refine g_nil ?_
    refine g_qt ?_
    refine g_ret ?_
    refine g_qt_ret ?_
    have e : cycleA n E = ([], 2) := by unfold cycleA; rw [hv]; rfl
    rw [e]
    refine g_ownnil (e := 3) (size := 1) ?_
    exact g_post (rs := [.tmp 4, .tmp 5]) rfl (.tmp rfl (.tmp rfl .nil)) ⟨none, 0, rfl, rfl⟩ (by repeat' (first | exact Cover.nil | exact Take.here | apply Cover.cons | apply Take.there))
  | true =>
    have hn0 : 0 ≤ n ∧ n ≤ 4096 := by
      have := hv
      unfold validP at this
      rw [Bool.and_eq_true, Bool.and_eq_true] at this
      exact of_decide_eq_true this.1.1
    obtain ⟨m, rfl⟩ : ∃ m : Nat, n = m := ⟨n.toNat, by omega⟩
    obtain ⟨hm, ho⟩ := valid_edok hv
    refine g_iff rfl ?_
    refine g_skip ?_
    refine g_qt ?_
    refine g_seq ?_
    refine g_region ?_
    refine g_pure (p_move rfl) rfl ?_
    refine g_pure (p_move rfl) rfl ?_
    refine g_call (Hin := []) (Hr := ?hr2) (R := ?rr2) rfl rfl rfl ?hin2 ?hc2 ?hk2
    case hin2 => repeat' (first | exact Cover.nil | exact Take.here | apply Cover.cons | apply Take.there)
    case hc2 => intro ρ' hρ hR; exact neigh_ok m a c E (hE.mono hρ) hlE hm ho
    rintro _ _ ⟨na, nc, rfl, rfl⟩
    refine g_freeze (A := Own2 _ _ na nc _) (by repeat' (first | exact Take.here | apply Take.there)) ?_
    intro ρ1 hρ1 hNo
    have hN : NbR ρ1 na m (fun v => nbP E v) := Own2.ro hNo
    clear hNo
    refine g_pure (p_assign rfl) rfl ?_
    refine g_nil ?_
    refine g_qt ?_
    refine g_seq ?_
    refine g_region ?_
    refine g_pure (p_move rfl) rfl ?_
    refine g_pure (p_len (by rfl) rfl) rfl ?_
    refine g_eff (e_makeC rfl rfl (by omega) (by show ((16 : Nat) : Int) * _ ≤ _; omega) (by omega)) rfl (fun _ _ => ?_)
    rintro ⟨a24, rfl, rfl⟩
    refine g_pure (p_assign rfl) rfl ?_
    refine g_nil ?_
    refine g_qt ?_
    refine g_seq ?_
    refine g_seq ?_
    refine g_region ?_
    refine g_pure (p_move rfl) rfl ?_
    refine g_pure (p_len (by rfl) rfl) rfl ?_
    refine g_pure (p_move rfl) rfl ?_
    refine g_nil ?_
    refine g_qt ?_
    refine g_block ?_
    refine g_loop (fun s : Nat × Option Addr × Nat => [(0, .int .i64 m), (6, .slice na m nc), (7, .slice s.2.1 (revE (E.take s.1)).length s.2.2), (25, .slice a E.length c), (26, .int .i64 E.length), (27, .int .i64 s.1)])
      (fun s => [OwnSl 40 2 s.2.1 (revE (E.take s.1)).length s.2.2 (flatE (revE (E.take s.1)))]) (fun s => s.1 ≤ E.length) (fun s => E.length - s.1) (0, a24, (E.length : Int).toNat) (Nat.zero_le _) (by (repeat (first | exact trivial | refine ⟨by rfl, ?_⟩)); done) (by repeat' (first | exact Cover.nil | exact Take.here | apply Cover.cons | apply Take.there)) ?_
    rintro ⟨k, oa, oc⟩ hk
    dsimp only at hk ⊢
    refine g_seq ?_
    refine g_region ?_
    refine g_pure (p_lss rfl rfl) rfl ?_
    refine g_nil ?_
    refine g_qt ?_
    refine g_seq ?_
    refine g_ifd rfl (fun q => ?_) (fun q => ?_)
    · have hk' : k < E.length := by omega
      obtain ⟨be, oe, ce, Te, ze, i1, i2, i3⟩ := hE.at (by omega)
      obtain ⟨i4, -, -⟩ := i3 k hk'
      have htk := take_snoc hk'
      have hrl := revE_len (E.take k)
      have hkl : (E.take k).length = k := by simp; omega
      have hsn := revE_snoc (E.take k) E[k]
      rw [← htk] at hsn
      refine g_skip ?_
      refine g_qt ?_
      refine g_seq ?_
      refine g_block ?_
      refine g_seq ?_
      refine g_region ?_
      refine g_pure (p_indexAddr rfl rfl (by omega) (fun _ => i1)) rfl ?_
      refine g_pure (p_loadN (by rfl) rfl (Has.ro (hρ1 _ _ i2)) i4) rfl ?_
      refine g_eff (e_alloc (by rfl)) rfl (fun _ _ => ?_)
      rintro ⟨b9, rfl, rfl⟩
      first | refine g_eff0 (e_storeO rfl rfl (by rfl) (by rfl) (by rfl) (by repeat' (first | exact Take.here | apply Take.there)) (by rfl)) (fun _ _ => ?_) | refine g_eff0 (e_storeN rfl rfl (by rfl) (by rfl) (by rfl) (by repeat' (first | exact Take.here | apply Take.there)) (by simp)) (fun _ _ => ?_)
      rintro rfl
      refine g_nil ?_
      refine g_qt ?_
      refine g_region ?_
      refine g_pure (p_move rfl) rfl ?_
      refine g_pure (p_fieldAddr rfl) rfl ?_
      refine g_pure (p_load (by rfl) rfl (by first | (apply Has.own; (repeat' (first | exact Take.here | apply Take.there)); done) | exact Has.ro (by assumption)) (by first | rfl | assumption)) rfl ?_
      refine g_pure (p_fieldAddr rfl) rfl ?_
      refine g_pure (p_load (by rfl) rfl (by first | (apply Has.own; (repeat' (first | exact Take.here | apply Take.there)); done) | exact Has.ro (by assumption)) (by first | rfl | assumption)) rfl ?_
      refine g_pure (p_build (by rfl) rfl (by rfl)) rfl ?_
      refine g_eff (e_bs (xs := [.tmp 36]) rfl rfl rfl (by rfl) (by rfl) rfl (by rfl)) rfl (fun _ _ => ?_)
      rintro ⟨b37, rfl, rfl⟩
      refine g_eff (e_appendO (by rfl) (by rfl) rfl rfl (by first | (apply Has.own; (repeat' (first | exact Take.here | apply Take.there)); done) | exact Has.ro (by assumption)) (by rfl) (by rfl) (by repeat' (first | exact Take.here | apply Take.there)) (by omega) (by first | omega | (dsimp only; omega) | (simp <;> omega)) (by omega)) rfl (fun _ _ => ?_)
      rintro ⟨a38, c38, rfl, rfl⟩
      refine g_pure (p_assign rfl) rfl ?_
      refine g_nil ?_
      refine g_qb ?_
      refine g_qt ?_
      refine g_region ?_
      first | refine g_pure (p_addi rfl rfl (by omega)) rfl ?_ | refine g_pure (p_add rfl rfl) rfl ?_
      refine g_pure (p_move rfl) rfl ?_
      refine g_nil ?_
      refine g_qn ?_
      rw [← flatE_snoc, ← hsn, show (revE (E.take k)).length + 1 = (revE (E.take (k + 1))).length by rw [hsn, List.length_append]; rfl]
      exact g_next (k + 1, a38, c38) (by (repeat (first | exact trivial | refine ⟨by rfl, ?_⟩)); done) (by repeat' (first | exact Cover.nil | exact Take.here | apply Cover.cons | apply Take.there)) (by dsimp only; omega) (by dsimp only; omega)
    · have hke : k = E.length := by omega
      rw [hke, List.take_length]
      refine g_exit ?_
      refine g_qt_exit ?_
      refine g_qn_exit ?_
      refine g_qb_exit ?_
      refine g_qt ?_
      refine g_seq ?_
      refine g_region ?_
      refine g_pure (p_move rfl) rfl ?_
      refine g_pure (p_move rfl) rfl ?_
      refine g_call (Hin := []) (Hr := ?hr3) (R := ?rr3) rfl rfl rfl ?hin3 ?hc3 ?hk3
      case hin3 => repeat' (first | exact Cover.nil | exact Take.here | apply Cover.cons | apply Take.there)
      case hc3 => intro ρ' hρ hR; exact neigh_ok m oa oc (revE E) (RSl.of_own (Take.ro (A := OwnSl _ 2 oa _ oc _) (by repeat' (first | exact Take.here | apply Take.there)) hR)) (by rw [revE_len]; exact hlE) hm (revE_ok ho)
      rintro _ _ ⟨ba, bc, rfl, rfl⟩
      refine g_freeze (A := Own2 _ _ ba bc _) (by repeat' (first | exact Take.here | apply Take.there)) ?_
      intro ρ2 hρ2 hBo
      have hB : NbR ρ2 ba m (fun v => nbP (revE E) v) := Own2.ro hBo
      clear hBo
      have hbf : ∀ (v : Nat) (u : Int), v < m → (u ∈ nbP (revE E) v ↔ (u, (v : Int)) ∈ E) := fun v u _ => by rw [nbP_mem, revE_mem]
      have hbl : ∀ v : Nat, v < m → (nbP (revE E) v).length ≤ 1000000 := fun v _ => by have := nbP_len (revE E) v; rw [revE_len] at this; omega
      refine g_pure (p_assign rfl) rfl ?_
      refine g_nil ?_
      refine g_qt ?_
      refine g_seq ?_
      refine g_region ?_
      refine g_pure (p_assign rfl) rfl ?_
      refine g_nil ?_
      refine g_qt ?_
      refine g_seq ?_
      refine g_seq ?_
      refine g_region ?_
      refine g_pure (p_move rfl) rfl ?_
      refine g_pure (p_move rfl) rfl ?_
      refine g_nil ?_
      refine g_qt ?_
      refine g_block ?_
      refine g_ownnil (e := 3) (size := 1) ?_
      refine g_loop (fun s : Nat × List Int × Option Addr × Nat => [(0, .int .i64 m), (6, .slice na m nc), (10, .slice ba m bc), (11, .slice s.2.2.1 s.2.1.length s.2.2.2), (43, .int .i64 m), (44, .int .i64 s.1)])
        (fun s => [OwnSl 3 1 s.2.2.1 s.2.1.length s.2.2.2 (s.2.1.map Z.encI)]) (fun s => s.1 ≤ m ∧ s.2.1 = (List.range s.1).foldl (stepC E m) [] ∧ s.2.2.1.isNone = decide (s.2.1 = []) ∧ s.2.1.length ≤ m + 1) (fun s => m - s.1) (0, [], none, 0) ⟨Nat.zero_le _, rfl, rfl, Nat.zero_le _⟩ (by (repeat (first | exact trivial | refine ⟨by rfl, ?_⟩)); done) (by repeat' (first | exact Cover.nil | exact Take.here | apply Cover.cons | apply Take.there)) ?_
      rintro ⟨v, best, oa, oc⟩ ⟨hv1, hbe, hbn, hbl2⟩
      dsimp only at hv1 hbe hbn hbl2 ⊢
      refine g_seq ?_
      refine g_region ?_
      refine g_pure (p_lss rfl rfl) rfl ?_
      refine g_nil ?_
      refine g_qt ?_
      refine g_seq ?_
      refine g_ifd rfl (fun q => ?_) (fun q => ?_)
      · have hv' : v < m := by omega
        refine g_skip ?_
        refine g_qt ?_
        refine g_seq ?_
        refine g_block ?_
        refine g_seq ?_
        refine g_region ?_
        refine g_pure (p_move rfl) rfl ?_
        refine g_pure (p_assign rfl) rfl ?_
        refine g_nil ?_
        refine g_qt ?_
        refine g_seq ?_
        refine g_region ?_
        refine g_pure (p_move rfl) rfl ?_
        first | refine g_pure (p_addi rfl rfl (by omega)) rfl ?_ | refine g_pure (p_add rfl rfl) rfl ?_
        refine g_pure (p_assign rfl) rfl ?_
        refine g_nil ?_
        refine g_qt ?_
        refine g_seq ?_
        refine g_seq ?_
        refine g_region ?_
        refine g_pure (p_move rfl) rfl ?_
        refine g_pure (p_neslnil rfl rfl rfl) rfl ?_
        refine g_nil ?_
        refine g_qt ?_
        refine g_if rfl (fun y => ?_) (fun y => ?_)
        · have hb0 : ¬ best = [] := fun h => by rw [hbn, h] at y; cases y
          have hbl0 : 1 ≤ best.length := by
            cases best with
            | nil => exact absurd rfl hb0
            | cons x l => simp
          refine g_region ?_
          refine g_pure (p_move rfl) rfl ?_
          refine g_pure (p_len (by rfl) rfl) rfl ?_
          refine g_pure (p_assign rfl) rfl ?_
          refine g_nil ?_
          refine g_qt ?_
          refine g_seq ?_
          refine g_region ?_
          refine g_pure (p_move rfl) rfl ?_
          refine g_pure (p_move rfl) rfl ?_
          refine g_pure (p_move rfl) rfl ?_
          refine g_pure (p_move rfl) rfl ?_
          refine g_call (Hin := []) (Hr := ?hr4) (R := ?rr4) rfl rfl rfl ?hin4 ?hc4 ?hk4
          case hin4 => repeat' (first | exact Cover.nil | exact Take.here | apply Cover.cons | apply Take.there)
          case hc4 => intro ρ' hρ hR; exact around_ok m hm E ho hlE na ba nc bc (fun v => nbP (revE E) v) (hN.mono (fun b o h => hρ b o (hρ2 b o h))) (hB.mono hρ) hbf hbl v hv' (best.length : Int) ⟨by omega, by omega⟩
          rintro _ _ ⟨ca, cc, rfl, rfl, hcn⟩
          refine g_pure (p_assign rfl) rfl ?_
          refine g_nil ?_
          refine g_qt ?_
          refine g_seq ?_
          refine g_region ?_
          refine g_pure (p_move rfl) rfl ?_
          refine g_pure (p_neslnil rfl rfl rfl) rfl ?_
          refine g_nil ?_
          refine g_qt ?_
          refine g_if rfl (fun z => ?_) (fun z => ?_)
          · have hce : stepC E m best v = aroundM (nbP E) (distP E m v) v (best.length : Int) := by
              unfold stepC
              rw [if_neg hb0]
              rw [if_neg (fun h => by rw [hcn, h] at z; cases z)]
            rw [← hce] at hcn ⊢
            refine g_region ?_
            refine g_pure (p_move rfl) rfl ?_
            refine g_pure (p_assign rfl) rfl ?_
            refine g_nil ?_
            refine g_qb ?_
            refine g_qt ?_
            refine g_region ?_
            first | refine g_pure (p_addi rfl rfl (by omega)) rfl ?_ | refine g_pure (p_add rfl rfl) rfl ?_
            refine g_pure (p_move rfl) rfl ?_
            refine g_nil ?_
            refine g_qn ?_
            exact g_next (v + 1, stepC E m best v, ca, cc) (by (repeat (first | exact trivial | refine ⟨by rfl, ?_⟩)); done) (by repeat' (first | exact Cover.nil | exact Take.here | apply Cover.cons | apply Take.there)) ⟨by dsimp only; omega, by dsimp only; rw [List.range_succ, List.foldl_append, ← hbe]; rfl, hcn, by dsimp only; rw [hce]; have := aroundM_len (nbP E) (distP E m v) v (most := (best.length : Int)) (by omega); omega⟩ (by dsimp only; omega)
          · have hce : stepC E m best v = best := by
              unfold stepC
              rw [if_neg hb0]
              rw [if_pos (by rw [hcn] at z; simpa using z)]
            refine g_skip ?_
            refine g_qb ?_
            refine g_qt ?_
            refine g_region ?_
            first | refine g_pure (p_addi rfl rfl (by omega)) rfl ?_ | refine g_pure (p_add rfl rfl) rfl ?_
            refine g_pure (p_move rfl) rfl ?_
            refine g_nil ?_
            refine g_qn ?_
            exact g_next (v + 1, best, oa, oc) (by (repeat (first | exact trivial | refine ⟨by rfl, ?_⟩)); done) (by repeat' (first | exact Cover.nil | exact Take.here | apply Cover.cons | apply Take.there)) ⟨by dsimp only; omega, by dsimp only; rw [List.range_succ, List.foldl_append, ← hbe]; exact hce.symm, hbn, hbl2⟩ (by dsimp only; omega)
        · have hb0 : best = [] := by rw [hbn] at y; simpa using y
          refine g_skip ?_
          refine g_qt ?_
          refine g_seq ?_
          refine g_region ?_
          refine g_pure (p_move rfl) rfl ?_
          refine g_pure (p_move rfl) rfl ?_
          refine g_pure (p_move rfl) rfl ?_
          refine g_pure (p_move rfl) rfl ?_
          refine g_call (Hin := []) (Hr := ?hr5) (R := ?rr5) rfl rfl rfl ?hin5 ?hc5 ?hk5
          case hin5 => repeat' (first | exact Cover.nil | exact Take.here | apply Cover.cons | apply Take.there)
          case hc5 => intro ρ' hρ hR; exact around_ok m hm E ho hlE na ba nc bc (fun v => nbP (revE E) v) (hN.mono (fun b o h => hρ b o (hρ2 b o h))) (hB.mono hρ) hbf hbl v hv' ((m : Int) + 1) ⟨by omega, by omega⟩
          rintro _ _ ⟨ca, cc, rfl, rfl, hcn⟩
          refine g_pure (p_assign rfl) rfl ?_
          refine g_nil ?_
          refine g_qt ?_
          refine g_seq ?_
          refine g_region ?_
          refine g_pure (p_move rfl) rfl ?_
          refine g_pure (p_neslnil rfl rfl rfl) rfl ?_
          refine g_nil ?_
          refine g_qt ?_
          refine g_if rfl (fun z => ?_) (fun z => ?_)
          · have hce : stepC E m best v = aroundM (nbP E) (distP E m v) v ((m : Int) + 1) := by
              unfold stepC
              rw [if_pos hb0]
              rw [if_neg (fun h => by rw [hcn, h] at z; cases z)]
            rw [← hce] at hcn ⊢
            refine g_region ?_
            refine g_pure (p_move rfl) rfl ?_
            refine g_pure (p_assign rfl) rfl ?_
            refine g_nil ?_
            refine g_qb ?_
            refine g_qt ?_
            refine g_region ?_
            first | refine g_pure (p_addi rfl rfl (by omega)) rfl ?_ | refine g_pure (p_add rfl rfl) rfl ?_
            refine g_pure (p_move rfl) rfl ?_
            refine g_nil ?_
            refine g_qn ?_
            exact g_next (v + 1, stepC E m best v, ca, cc) (by (repeat (first | exact trivial | refine ⟨by rfl, ?_⟩)); done) (by repeat' (first | exact Cover.nil | exact Take.here | apply Cover.cons | apply Take.there)) ⟨by dsimp only; omega, by dsimp only; rw [List.range_succ, List.foldl_append, ← hbe]; rfl, hcn, by dsimp only; rw [hce]; have := aroundM_len (nbP E) (distP E m v) v (most := ((m : Int) + 1)) (by omega); omega⟩ (by dsimp only; omega)
          · have hce : stepC E m best v = best := by
              unfold stepC
              rw [if_pos hb0]
              rw [if_pos (by rw [hcn] at z; simpa using z)]
            refine g_skip ?_
            refine g_qb ?_
            refine g_qt ?_
            refine g_region ?_
            first | refine g_pure (p_addi rfl rfl (by omega)) rfl ?_ | refine g_pure (p_add rfl rfl) rfl ?_
            refine g_pure (p_move rfl) rfl ?_
            refine g_nil ?_
            refine g_qn ?_
            exact g_next (v + 1, best, oa, oc) (by (repeat (first | exact trivial | refine ⟨by rfl, ?_⟩)); done) (by repeat' (first | exact Cover.nil | exact Take.here | apply Cover.cons | apply Take.there)) ⟨by dsimp only; omega, by dsimp only; rw [List.range_succ, List.foldl_append, ← hbe]; exact hce.symm, hbn, hbl2⟩ (by dsimp only; omega)
      · have hve : v = m := by omega
        have hbe' : best = cycleP E m := by rw [hbe, hve]; rfl
        refine g_exit ?_
        refine g_qt_exit ?_
        refine g_qn_exit ?_
        refine g_qb_exit ?_
        refine g_qt ?_
        refine g_seq ?_
        refine g_seq ?_
        refine g_region ?_
        refine g_pure (p_move rfl) rfl ?_
        refine g_pure (p_eqslnil rfl rfl rfl) rfl ?_
        refine g_nil ?_
        refine g_qt ?_
        refine g_if rfl (fun y => ?_) (fun y => ?_)
        · have hb0 : best = [] := by rw [hbn] at y; exact of_decide_eq_true y
          have e : cycleA m E = ([], 8) := by unfold cycleA; rw [hv, Int.toNat_natCast, ← hbe', hb0]; rfl
          rw [e]
          refine g_seq ?_
          refine g_region ?_
          refine g_pure (p_assign rfl) rfl ?_
          refine g_pure (p_assign rfl) rfl ?_
          refine g_nil ?_
          refine g_qt ?_
          refine g_ret ?_
          refine g_qt_ret ?_
          refine g_ownnil (e := 3) (size := 1) ?_
          refine g_thaw (fun b o h => hρ2 b o (hρ1 b o h)) ?_
          exact g_post (rs := [.tmp 4, .tmp 5]) rfl (.tmp rfl (.tmp rfl .nil)) ⟨none, 0, rfl, rfl⟩ (by repeat' (first | exact Cover.nil | exact Take.here | apply Cover.cons | apply Take.there))
        · have hb0 : ¬ best = [] := fun h => by rw [hbn, h] at y; cases y
          have e : cycleA m E = (best, 0) := by unfold cycleA; rw [hv, Int.toNat_natCast, ← hbe']; exact if_neg hb0
          rw [e]
          refine g_skip ?_
          refine g_qt ?_
          refine g_seq ?_
          refine g_region ?_
          refine g_pure (p_move rfl) rfl ?_
          refine g_pure (p_assign rfl) rfl ?_
          refine g_pure (p_assign rfl) rfl ?_
          refine g_nil ?_
          refine g_qt ?_
          refine g_ret ?_
          refine g_thaw (fun b o h => hρ2 b o (hρ1 b o h)) ?_
          exact g_post (rs := [.tmp 4, .tmp 5]) rfl (.tmp rfl (.tmp rfl .nil)) ⟨oa, oc, rfl, rfl⟩ (by repeat' (first | exact Cover.nil | exact Take.here | apply Cover.cons | apply Take.there))
end Go.Proofs.Ytmefecnjliadaaa
