/- Chapter 4, the document: the shortest cycle. Conditions: none. -/
import Derived.Test.YtmefecnjliadaaaGa
import Derived.Test.YtmefecnjliadaaaGe
namespace Go.Z.Gr
set_option maxRecDepth 8000
set_option linter.unusedVariables false
set_option linter.unusedSimpArgs false
set_option linter.unusedSectionVars false
open Go Go.Z Go.Z.Gra
theorem good_min {E : Ed} {n : Nat} (ho : EdOk n E) {v : Nat} (hv : v < n) (h : ¬ minD (distP E n v) (tosP E v) < 0) : Good (nbP E) (distP E n v) v (minD (distP E n v) (tosP E v)).toNat v ∧ minD (distP E n v) (tosP E v) < n := by
  have hd := distP_ok ho (t := v) ⟨by omega, by omega⟩
  have hgl := distP_len E n v
  obtain ⟨-, h2⟩ := minD_char (distP E n v) (tosP E v) (-1) (by decide)
  have hmin : minD (distP E n v) (tosP E v) = (tosP E v).foldl (minS (distP E n v)) (-1) := rfl
  rw [← hmin] at h2
  obtain ⟨h3, -, -⟩ := h2 (by omega)
  rcases h3 with ⟨h3, -⟩ | ⟨w, h5, h6⟩
  · exact absurd h3 (by decide)
  · have hwn := (ho _ (tosP_mem.1 h5)).2
    dsimp only at hwn
    have hge := dist_ge hd hwn (by omega)
    refine ⟨fun h0 => ⟨w, nbP_mem.2 (tosP_mem.1 h5), hge.2 (by omega), by omega⟩, ?_⟩
    rw [← h6]
    obtain ⟨x, rfl⟩ : ∃ x : Nat, w = x := ⟨w.toNat, by omega⟩
    rw [getI_nat (by omega)]; exact distP_lt E n v _ (List.getElem_mem _)
end Go.Z.Gr
namespace Go.Proofs.Ytmefecnjliadaaa
set_option maxRecDepth 8000
set_option linter.unusedVariables false
set_option linter.unusedSimpArgs false
set_option linter.unusedSectionVars false
open Go Go.Z Go.Z.Gr Go.Z.Gra
theorem least_ok {ρ : Nat → Obj → Prop} (al ad : Option Addr) (cl cd : Nat) (l d : List Int) (hl : RSl ρ 1 al l.length (l.map Z.encI)) (hd : RSl ρ 1 ad d.length (d.map Z.encI)) (hlen : l.length ≤ 1000000) (hin : ∀ w ∈ l, 0 ≤ w ∧ w < d.length) (k : Int) (nd : Nat) (hdn : d.length = nd) :
    Con Try.prog ρ 47 #[.slice al l.length cl, .slice ad nd cd, .int .i64 k] [] (fun r H => r = .int .i64 (leaD d k l) ∧ H = []) := by
  subst hdn
  refine con_intro Try.func47 Try.call47 rfl Try.ntmps47 rfl (L := [(0, _), (1, _), (2, _)]) rfl fun w hh => ?_
  refine g_seq ?_
  refine g_region ?_
  refine g_pure (p_assign rfl) rfl ?_
  refine g_nil ?_
  refine g_qt ?_
  refine g_seq ?_
  refine g_region ?_
  refine g_pure (p_assign rfl) rfl ?_
  refine g_nil ?_
  refine g_qt ?_
  refine g_seq ?_
  refine g_seq ?_
  refine g_region ?_
  refine g_pure (p_assign rfl) rfl ?_
  refine g_nil ?_
  refine g_qt ?_
  refine g_block ?_
  refine g_loop (fun j : Nat => [(0, .slice al l.length cl), (1, .slice ad d.length cd), (2, .int .i64 k), (7, .int .i64 (leaD d k (l.take j))), (8, .int .i64 j)]) (fun _ => []) (fun j => j ≤ l.length) (fun j => l.length - j) 0 (Nat.zero_le _) (by (repeat (first | exact trivial | refine ⟨by rfl, ?_⟩)); done) .nil ?_
  rintro j hj
  refine g_seq ?_
  refine g_seq ?_
  refine g_region ?_
  refine g_pure (p_move rfl) rfl ?_
  refine g_pure (p_move rfl) rfl ?_
  refine g_pure (p_len (by rfl) rfl) rfl ?_
  refine g_pure (p_lss rfl rfl) rfl ?_
  refine g_nil ?_
  refine g_qt ?_
  refine g_ifd rfl (fun q => ?_) (fun q => ?_)
  · have hj' : j < l.length := by omega
    obtain ⟨bl, ol, c1, Tl, zl, l1, l2, l3⟩ := rsl_at hl (by omega)
    have l3 := l3 j hj'
    have hw := hin _ (List.getElem_mem hj')
    have hst : leaD d k (l.take (j + 1)) = leaS d k (leaD d k (l.take j)) l[j] := by
      unfold leaD; rw [take_snoc hj', List.foldl_append]; rfl
    generalize l[j] = w at *
    obtain ⟨bx, ox, cx, Tx, zx, x1, x2, x3⟩ := rsl_at hd (by omega)
    have x4 := x3 w.toNat (by omega)
    rw [← getI_nat (by omega), show ((w.toNat : Nat) : Int) = w by omega] at x4
    generalize leaD d k (l.take j) = b at *
    refine g_skip ?_
    refine g_qt ?_
    refine g_seq ?_
    refine g_block ?_
    refine g_seq ?_
    refine g_region ?_
    refine g_pure (p_move rfl) rfl ?_
    refine g_pure (p_move rfl) rfl ?_
    refine g_pure (p_move rfl) rfl ?_
    refine g_pure (p_indexAddr rfl rfl (by omega) (fun _ => l1)) rfl ?_
    refine g_pure (p_load (by rfl) rfl (Has.ro l2) l3) rfl ?_
    refine g_pure (p_indexAddr rfl rfl (by omega) (fun _ => x1)) rfl ?_
    refine g_pure (p_load (by rfl) rfl (Has.ro x2) x4) rfl ?_
    refine g_pure (p_move rfl) rfl ?_
    refine g_pure (p_eql rfl rfl) rfl ?_
    refine g_pure (p_move rfl) rfl ?_
    refine g_splitd rfl rfl (fun g1 => ?_) (fun g1 => ?_)
    · refine g_yes rfl rfl ?_
      refine g_pure (p_move rfl) rfl ?_
      refine g_yes rfl rfl ?_
      refine g_pure (p_lss rfl rfl) rfl ?_
      refine g_yes rfl rfl ?_
      refine g_pure (p_move rfl) rfl ?_
      refine g_splitd rfl rfl (fun g2 => ?_) (fun g2 => ?_)
      · have hs : w = leaD d k (l.take (j + 1)) := by rw [hst]; unfold leaS; rw [if_pos ⟨g1, .inl g2⟩]
        refine g_no rfl rfl rfl rfl ?_
        refine g_no rfl rfl rfl rfl ?_
        refine g_no rfl rfl rfl rfl ?_
        refine g_no rfl rfl rfl rfl ?_
        refine g_no rfl rfl rfl rfl ?_
        refine g_no rfl rfl rfl rfl ?_
        refine g_yes rfl rfl ?_
        first | refine g_pure (p_pickt rfl rfl) rfl ?_ | refine g_pure (p_pickf rfl rfl) rfl ?_
        first | refine g_pure (p_pickt rfl rfl) rfl ?_ | refine g_pure (p_pickf rfl rfl) rfl ?_
        refine g_nil ?_
        refine g_qt ?_
        refine g_ift rfl ?_
        refine g_region ?_
        refine g_pure (p_move rfl) rfl ?_
        refine g_pure (p_move rfl) rfl ?_
        refine g_pure (p_indexAddr rfl rfl (by omega) (fun _ => l1)) rfl ?_
        refine g_pure (p_load (by rfl) rfl (Has.ro l2) l3) rfl ?_
        refine g_pure (p_assign rfl) rfl ?_
        refine g_nil ?_
        refine g_qb ?_
        refine g_qt ?_
        refine g_region ?_
        refine g_pure (p_move rfl) rfl ?_
        first | refine g_pure (p_addi rfl rfl (by omega)) rfl ?_ | refine g_pure (p_add rfl rfl) rfl ?_
        refine g_pure (p_assign rfl) rfl ?_
        refine g_nil ?_
        refine g_qn ?_
        rw [hs]
        exact g_next (j + 1) (by (repeat (first | exact trivial | refine ⟨by rfl, ?_⟩)); done) .nil (by omega) (by omega)
      · refine g_yes rfl rfl ?_
        refine g_pure (p_move rfl) rfl ?_
        refine g_yes rfl rfl ?_
        refine g_pure (p_move rfl) rfl ?_
        refine g_yes rfl rfl ?_
        refine g_pure (p_indexAddr rfl rfl (by omega) (fun _ => l1)) rfl ?_
        refine g_yes rfl rfl ?_
        refine g_pure (p_load (by rfl) rfl (Has.ro l2) l3) rfl ?_
        refine g_yes rfl rfl ?_
        refine g_pure (p_move rfl) rfl ?_
        refine g_yes rfl rfl ?_
        refine g_pure (p_lss rfl rfl) rfl ?_
        refine g_yes rfl rfl ?_
        first | refine g_pure (p_pickt rfl rfl) rfl ?_ | refine g_pure (p_pickf rfl rfl) rfl ?_
        first | refine g_pure (p_pickt rfl rfl) rfl ?_ | refine g_pure (p_pickf rfl rfl) rfl ?_
        refine g_nil ?_
        refine g_qt ?_
        refine g_ifd rfl (fun g3 => ?_) (fun g3 => ?_)
        · have hs : w = leaD d k (l.take (j + 1)) := by rw [hst]; unfold leaS; rw [if_pos ⟨g1, .inr g3⟩]
          refine g_region ?_
          refine g_pure (p_move rfl) rfl ?_
          refine g_pure (p_move rfl) rfl ?_
          refine g_pure (p_indexAddr rfl rfl (by omega) (fun _ => l1)) rfl ?_
          refine g_pure (p_load (by rfl) rfl (Has.ro l2) l3) rfl ?_
          refine g_pure (p_assign rfl) rfl ?_
          refine g_nil ?_
          refine g_qb ?_
          refine g_qt ?_
          refine g_region ?_
          refine g_pure (p_move rfl) rfl ?_
          first | refine g_pure (p_addi rfl rfl (by omega)) rfl ?_ | refine g_pure (p_add rfl rfl) rfl ?_
          refine g_pure (p_assign rfl) rfl ?_
          refine g_nil ?_
          refine g_qn ?_
          rw [hs]
          exact g_next (j + 1) (by (repeat (first | exact trivial | refine ⟨by rfl, ?_⟩)); done) .nil (by omega) (by omega)
        · have hs : b = leaD d k (l.take (j + 1)) := by rw [hst]; unfold leaS; rw [if_neg (by omega)]
          refine g_skip ?_
          refine g_qb ?_
          refine g_qt ?_
          refine g_region ?_
          refine g_pure (p_move rfl) rfl ?_
          first | refine g_pure (p_addi rfl rfl (by omega)) rfl ?_ | refine g_pure (p_add rfl rfl) rfl ?_
          refine g_pure (p_assign rfl) rfl ?_
          refine g_nil ?_
          refine g_qn ?_
          rw [hs]
          exact g_next (j + 1) (by (repeat (first | exact trivial | refine ⟨by rfl, ?_⟩)); done) .nil (by omega) (by omega)
    · have hs : b = leaD d k (l.take (j + 1)) := by rw [hst]; unfold leaS; rw [if_neg (fun h => g1 h.1)]
      refine g_no rfl rfl rfl rfl ?_
      refine g_no rfl rfl rfl rfl ?_
      refine g_no rfl rfl rfl rfl ?_
      refine g_nou rfl rfl rfl ?_
      refine g_nou rfl rfl rfl ?_
      refine g_nou rfl rfl rfl ?_
      refine g_nou rfl rfl rfl ?_
      refine g_nou rfl rfl rfl ?_
      refine g_nou rfl rfl rfl ?_
      refine g_no rfl rfl rfl rfl ?_
      first | refine g_pure (p_pickt rfl rfl) rfl ?_ | refine g_pure (p_pickf rfl rfl) rfl ?_
      refine g_nil ?_
      refine g_qt ?_
      refine g_iff rfl ?_
      refine g_skip ?_
      refine g_qb ?_
      refine g_qt ?_
      refine g_region ?_
      refine g_pure (p_move rfl) rfl ?_
      first | refine g_pure (p_addi rfl rfl (by omega)) rfl ?_ | refine g_pure (p_add rfl rfl) rfl ?_
      refine g_pure (p_assign rfl) rfl ?_
      refine g_nil ?_
      refine g_qn ?_
      rw [hs]
      exact g_next (j + 1) (by (repeat (first | exact trivial | refine ⟨by rfl, ?_⟩)); done) .nil (by omega) (by omega)
  · have hje : j = l.length := by omega
    rw [hje, List.take_length]
    refine g_exit ?_
    refine g_qt_exit ?_
    refine g_qn_exit ?_
    refine g_qb_exit ?_
    refine g_qt ?_
    refine g_seq ?_
    refine g_region ?_
    refine g_pure (p_move rfl) rfl ?_
    refine g_pure (p_assign rfl) rfl ?_
    refine g_nil ?_
    refine g_qt ?_
    refine g_ret ?_
    exact g_post (rs := [.tmp 6]) rfl (.tmp rfl .nil) ⟨rfl, rfl⟩ .nil
theorem raround_ok {ρ : Nat → Obj → Prop} (n : Nat) (hn : n ≤ 4096) (E : Ed) (ho : EdOk n E) (hlE : E.length ≤ 1000000) (na ba : Option Addr) (nc bc : Nat) (f : Nat → List Int) (hN : NbR ρ na n fun v => tosP E v) (hB : NbR ρ ba n f) (hf : ∀ v u, v < n → (u ∈ f v ↔ (u, (v : Int)) ∈ E)) (hfl : ∀ v, v < n → (f v).length ≤ 1000000) (v : Nat) (hv : v < n) :
    Con Try.prog ρ 31 #[.slice na n nc, .slice ba n bc, .int .i64 v] [] (fun r H => ∃ a' c', r = .slice a' (aroundM (nbP E) (distP E n v) v ((n : Int) + 1)).length c' ∧ H = [OwnSl 3 1 a' (aroundM (nbP E) (distP E n v) v ((n : Int) + 1)).length c' ((aroundM (nbP E) (distP E n v) v ((n : Int) + 1)).map Z.encI)]) := by
  obtain ⟨bb, oo, cc, TT, zz, ai, ci, r1, r2, r3, r4⟩ := hN.at hv
  have hll := tosP_len E v
  have hmin := around_min ho hv
  have hgm := good_min ho hv
  refine con_intro Try.func31 Try.call31 rfl Try.ntmps31 rfl (L := [(0, _), (1, _), (2, _)]) rfl fun w hh => ?_
  refine g_seq ?_
  refine g_region ?_
  refine g_pure (p_assign rfl) rfl ?_
  refine g_nil ?_
  refine g_qt ?_
  refine g_seq ?_
  refine g_region ?_
  refine g_pure (p_move rfl) rfl ?_
  refine g_pure (p_move rfl) rfl ?_
  refine g_call (Hin := []) (Hr := ?hr1) (R := ?rr1) rfl rfl rfl ?hin1 ?hc1 ?hk1
  case hin1 => repeat' (first | exact Cover.nil | exact Take.here | apply Cover.cons | apply Take.there)
  case hc1 => intro ρ' hρ hR; exact far_ok n hn E ho ba bc f (hB.mono hρ) hf hfl v hv
  rintro _ _ ⟨da, dc, d, rfl, rfl, hD, hL⟩
  have hdl := hD.1
  have hdd : d = distP E n v := dist_eq hD fun x hx => by have := hL x hx; omega
  rw [hmin]
  rw [← hdd] at hgm ⊢
  clear hmin
  refine g_freeze (A := OwnSl _ _ da _ dc _) (by repeat' (first | exact Take.here | apply Take.there)) ?_
  intro ρ1 hρ1 hRo
  have hDR : RSl ρ1 1 da d.length (d.map Z.encI) := by have := RSl.of_own hRo; rw [hdl]; exact this
  clear hRo
  have hgl : ∀ u : Int, 0 ≤ u ∧ u < n → -1 ≤ getI d u ∧ getI d u ≤ n := fun u hu => by
    have h1 := getI_le hL (v := u) ⟨hu.1, by omega⟩
    obtain ⟨x, rfl⟩ : ∃ x : Nat, u = x := ⟨u.toNat, by omega⟩
    rw [getI_nat (by omega)] at h1 ⊢
    have h2 := hD.2 x (by omega)
    by_cases e : 0 ≤ d[x]
    · omega
    · have := (h2.2 (by omega)).1; omega
  have hge : ∀ (k : Nat) (w : Int), 0 ≤ w → w < n → getI d w = ((k + 1 : Nat) : Int) → (v : Int) < w := fun k w h1 h2 h3 => (dist_ge hD ⟨h1, h2⟩ (by omega)).2 (by omega)
  refine g_pure (p_assign rfl) rfl ?_
  refine g_nil ?_
  refine g_qt ?_
  refine g_seq ?_
  refine g_region ?_
  refine g_pure (p_assign rfl) rfl ?_
  refine g_nil ?_
  refine g_qt ?_
  refine g_seq ?_
  refine g_seq ?_
  refine g_region ?_
  refine g_pure (p_assign rfl) rfl ?_
  refine g_nil ?_
  refine g_qt ?_
  refine g_block ?_
  refine g_loop (fun j : Nat => [(0, .slice na n nc), (2, .int .i64 v), (7, .slice da n dc), (8, .int .i64 (minD d ((tosP E v).take j))), (9, .int .i64 j)])
    (fun _ => []) (fun j => j ≤ (tosP E v).length) (fun j => (tosP E v).length - j) 0 (Nat.zero_le _) (by (repeat (first | exact trivial | refine ⟨by rfl, ?_⟩)); done) .nil ?_
  rintro j hj
  refine g_seq ?_
  refine g_seq ?_
  refine g_region ?_
  refine g_pure (p_move rfl) rfl ?_
  refine g_pure (p_move rfl) rfl ?_
  refine g_pure (p_move rfl) rfl ?_
  refine g_pure (p_indexAddr rfl rfl (by omega) (fun _ => r1)) rfl ?_
  refine g_pure (p_load (by rfl) rfl (Has.ro (hρ1 _ _ r2)) r3) rfl ?_
  refine g_pure (p_len (by rfl) rfl) rfl ?_
  refine g_pure (p_lss rfl rfl) rfl ?_
  refine g_nil ?_
  refine g_qt ?_
  refine g_ifd rfl (fun q => ?_) (fun q => ?_)
  · have hj' : j < (tosP E v).length := by omega
    obtain ⟨bl, ol, cl, Tl, zl, l1, l2, l3⟩ := rsl_at r4 (by omega)
    have l3 := l3 j hj'
    have hin := (ho _ (tosP_mem.1 (List.getElem_mem hj'))).2
    dsimp only at hin
    have hst : minD d ((tosP E v).take (j + 1)) = minS d (minD d ((tosP E v).take j)) (tosP E v)[j] := by
      unfold minD; rw [take_snoc hj', List.foldl_append]; rfl
    generalize hw : (tosP E v)[j] = u at *
    obtain ⟨bx, ox, cx, Tx, zx, x1, x2, x3⟩ := rsl_at hDR (by omega)
    have x4 := x3 u.toNat (by omega)
    rw [← getI_nat (by omega), show ((u.toNat : Nat) : Int) = u by omega] at x4
    generalize minD d ((tosP E v).take j) = b at *
    refine g_skip ?_
    refine g_qt ?_
    refine g_seq ?_
    refine g_block ?_
    refine g_seq ?_
    refine g_region ?_
    refine g_pure (p_move rfl) rfl ?_
    refine g_pure (p_move rfl) rfl ?_
    refine g_pure (p_move rfl) rfl ?_
    refine g_pure (p_indexAddr rfl rfl (by omega) (fun _ => r1)) rfl ?_
    refine g_pure (p_load (by rfl) rfl (Has.ro (hρ1 _ _ r2)) r3) rfl ?_
    refine g_pure (p_move rfl) rfl ?_
    refine g_pure (p_indexAddr rfl rfl (by omega) (fun _ => l1)) rfl ?_
    refine g_pure (p_load (by rfl) rfl (Has.ro (hρ1 _ _ l2)) l3) rfl ?_
    refine g_pure (p_indexAddr rfl rfl (by omega) (fun _ => x1)) rfl ?_
    refine g_pure (p_load (by rfl) rfl (Has.ro x2) x4) rfl ?_
    refine g_pure (p_assign rfl) rfl ?_
    refine g_nil ?_
    refine g_qt ?_
    refine g_seq ?_
    refine g_region ?_
    refine g_pure (p_move rfl) rfl ?_
    refine g_pure (p_geq rfl rfl) rfl ?_
    refine g_pure (p_move rfl) rfl ?_
    refine g_splitd rfl rfl (fun g1 => ?_) (fun g1 => ?_)
    · refine g_yes rfl rfl ?_
      refine g_pure (p_move rfl) rfl ?_
      refine g_yes rfl rfl ?_
      refine g_pure (p_lss rfl rfl) rfl ?_
      refine g_yes rfl rfl ?_
      refine g_pure (p_move rfl) rfl ?_
      refine g_splitd rfl rfl (fun g2 => ?_) (fun g2 => ?_)
      · have hs : getI d u = minD d ((tosP E v).take (j + 1)) := by rw [hst]; unfold minS; rw [if_pos ⟨by omega, .inl g2⟩]
        refine g_no rfl rfl rfl rfl ?_
        refine g_no rfl rfl rfl rfl ?_
        refine g_no rfl rfl rfl rfl ?_
        refine g_yes rfl rfl ?_
        first | refine g_pure (p_pickt rfl rfl) rfl ?_ | refine g_pure (p_pickf rfl rfl) rfl ?_
        first | refine g_pure (p_pickt rfl rfl) rfl ?_ | refine g_pure (p_pickf rfl rfl) rfl ?_
        refine g_nil ?_
        refine g_qt ?_
        refine g_ift rfl ?_
        refine g_region ?_
        refine g_pure (p_move rfl) rfl ?_
        refine g_pure (p_assign rfl) rfl ?_
        refine g_nil ?_
        refine g_qb ?_
        refine g_qt ?_
        refine g_region ?_
        refine g_pure (p_move rfl) rfl ?_
        first | refine g_pure (p_addi rfl rfl (by omega)) rfl ?_ | refine g_pure (p_add rfl rfl) rfl ?_
        refine g_pure (p_assign rfl) rfl ?_
        refine g_nil ?_
        refine g_qn ?_
        rw [hs]
        exact g_next (j + 1) (by (repeat (first | exact trivial | refine ⟨by rfl, ?_⟩)); done) .nil (by omega) (by omega)
      · refine g_yes rfl rfl ?_
        refine g_pure (p_move rfl) rfl ?_
        refine g_yes rfl rfl ?_
        refine g_pure (p_move rfl) rfl ?_
        refine g_yes rfl rfl ?_
        refine g_pure (p_lss rfl rfl) rfl ?_
        refine g_yes rfl rfl ?_
        first | refine g_pure (p_pickt rfl rfl) rfl ?_ | refine g_pure (p_pickf rfl rfl) rfl ?_
        first | refine g_pure (p_pickt rfl rfl) rfl ?_ | refine g_pure (p_pickf rfl rfl) rfl ?_
        refine g_nil ?_
        refine g_qt ?_
        refine g_ifd rfl (fun g3 => ?_) (fun g3 => ?_)
        · have hs : getI d u = minD d ((tosP E v).take (j + 1)) := by rw [hst]; unfold minS; rw [if_pos ⟨by omega, .inr g3⟩]
          refine g_region ?_
          refine g_pure (p_move rfl) rfl ?_
          refine g_pure (p_assign rfl) rfl ?_
          refine g_nil ?_
          refine g_qb ?_
          refine g_qt ?_
          refine g_region ?_
          refine g_pure (p_move rfl) rfl ?_
          first | refine g_pure (p_addi rfl rfl (by omega)) rfl ?_ | refine g_pure (p_add rfl rfl) rfl ?_
          refine g_pure (p_assign rfl) rfl ?_
          refine g_nil ?_
          refine g_qn ?_
          rw [hs]
          exact g_next (j + 1) (by (repeat (first | exact trivial | refine ⟨by rfl, ?_⟩)); done) .nil (by omega) (by omega)
        · have hs : b = minD d ((tosP E v).take (j + 1)) := by rw [hst]; unfold minS; rw [if_neg (by omega)]
          refine g_skip ?_
          refine g_qb ?_
          refine g_qt ?_
          refine g_region ?_
          refine g_pure (p_move rfl) rfl ?_
          first | refine g_pure (p_addi rfl rfl (by omega)) rfl ?_ | refine g_pure (p_add rfl rfl) rfl ?_
          refine g_pure (p_assign rfl) rfl ?_
          refine g_nil ?_
          refine g_qn ?_
          rw [hs]
          exact g_next (j + 1) (by (repeat (first | exact trivial | refine ⟨by rfl, ?_⟩)); done) .nil (by omega) (by omega)
    · have hs : b = minD d ((tosP E v).take (j + 1)) := by rw [hst]; unfold minS; rw [if_neg (fun h => g1 (by omega))]
      refine g_no rfl rfl rfl rfl ?_
      refine g_no rfl rfl rfl rfl ?_
      refine g_no rfl rfl rfl rfl ?_
      refine g_nou rfl rfl rfl ?_
      refine g_nou rfl rfl rfl ?_
      refine g_nou rfl rfl rfl ?_
      refine g_no rfl rfl rfl rfl ?_
      first | refine g_pure (p_pickt rfl rfl) rfl ?_ | refine g_pure (p_pickf rfl rfl) rfl ?_
      refine g_nil ?_
      refine g_qt ?_
      refine g_iff rfl ?_
      refine g_skip ?_
      refine g_qb ?_
      refine g_qt ?_
      refine g_region ?_
      refine g_pure (p_move rfl) rfl ?_
      first | refine g_pure (p_addi rfl rfl (by omega)) rfl ?_ | refine g_pure (p_add rfl rfl) rfl ?_
      refine g_pure (p_assign rfl) rfl ?_
      refine g_nil ?_
      refine g_qn ?_
      rw [hs]
      exact g_next (j + 1) (by (repeat (first | exact trivial | refine ⟨by rfl, ?_⟩)); done) .nil (by omega) (by omega)
  · have hje : j = (tosP E v).length := by omega
    rw [hje, List.take_length]
    generalize minD d (tosP E v) = b at *
    refine g_exit ?_
    refine g_qt_exit ?_
    refine g_qn_exit ?_
    refine g_qb_exit ?_
    refine g_qt ?_
    refine g_seq ?_
    refine g_seq ?_
    refine g_region ?_
    refine g_pure (p_move rfl) rfl ?_
    refine g_pure (p_lss rfl rfl) rfl ?_
    refine g_nil ?_
    refine g_qt ?_
    refine g_ifd rfl (fun h => ?_) (fun h => ?_)
    · refine g_seq ?_
      refine g_region ?_
      refine g_pure (p_assign rfl) rfl ?_
      refine g_nil ?_
      refine g_qt ?_
      refine g_ret ?_
      refine g_qt_ret ?_
      rw [if_pos h]
      refine g_ownnil (e := 3) (size := 1) ?_
      refine g_thaw hρ1 ?_
      exact g_post (rs := [.tmp 6]) rfl (.tmp rfl .nil) ⟨none, 0, rfl, rfl⟩ (by repeat' (first | exact Cover.nil | exact Take.here | apply Cover.cons | apply Take.there))
    · obtain ⟨hgood, hbn⟩ := hgm h
      obtain ⟨K, rfl⟩ : ∃ K : Nat, b = K := ⟨b.toNat, by omega⟩
      rw [if_neg h]
      rw [Int.toNat_natCast K] at hgood ⊢
      refine g_skip ?_
      refine g_qt ?_
      refine g_seq ?_
      refine g_region ?_
      refine g_pure (p_move rfl) rfl ?_
      refine g_eff (e_bs (xs := [.tmp 49]) rfl rfl rfl (by rfl) (by rfl) rfl (by rfl)) rfl (fun _ _ => ?_)
      rintro ⟨b50, rfl, rfl⟩
      refine g_pure (p_assign rfl) rfl ?_
      refine g_nil ?_
      refine g_qt ?_
      refine g_seq ?_
      refine g_region ?_
      refine g_pure (p_move rfl) rfl ?_
      refine g_pure (p_assign rfl) rfl ?_
      refine g_nil ?_
      refine g_qt ?_
      refine g_seq ?_
      refine g_block ?_
      refine g_weak (B := OwnSl 3 1 (some ⟨b50, 0, none⟩) 1 1 ([(v : Int)].map Z.encI)) .here (fun hh hb => own_of_blk (k := 1) (cap := 1) (size := 1) (by decide) (by decide) rfl hh hb) ?_
      refine g_loop (fun s : Nat × Int × List Int × Option Addr × Nat => [(0, .slice na n nc), (7, .slice da n dc), (8, .int .i64 s.1), (11, .slice s.2.2.2.1 s.2.2.1.length s.2.2.2.2), (12, .int .i64 s.2.1)])
        (fun s => [OwnSl 3 1 s.2.2.2.1 s.2.2.1.length s.2.2.2.2 (s.2.2.1.map Z.encI)]) (fun s => s.2.2.1 ++ pathP (nbP E) d v s.1 s.2.1 = (v : Int) :: pathP (nbP E) d v K v ∧ Gr.Good (nbP E) d v s.1 s.2.1 ∧ (0 ≤ s.2.1 ∧ s.2.1 < n) ∧ s.2.2.1.length + s.1 ≤ n + 1) (fun s => s.1)
        (K, (v : Int), [(v : Int)], some ⟨b50, 0, none⟩, 1) ⟨rfl, hgood, ⟨by dsimp only; omega, by dsimp only; omega⟩, by show 1 + K ≤ n + 1; omega⟩ (by (repeat (first | exact trivial | refine ⟨by rfl, ?_⟩)); done) (by repeat' (first | exact Cover.nil | exact Take.here | apply Cover.cons | apply Take.there)) ?_
      rintro ⟨k, at_, out, oa, oc⟩ ⟨hp, hg, hat, hol⟩
      dsimp only at hp hg hat hol ⊢
      refine g_seq ?_
      refine g_seq ?_
      refine g_region ?_
      refine g_pure (p_move rfl) rfl ?_
      refine g_pure (p_gtr rfl rfl) rfl ?_
      refine g_nil ?_
      refine g_qt ?_
      refine g_ifd rfl (fun y => ?_) (fun y => ?_)
      · obtain ⟨k, rfl⟩ : ∃ k', k = k' + 1 := ⟨k - 1, by omega⟩
        obtain ⟨an, rfl⟩ : ∃ an : Nat, at_ = an := ⟨at_.toNat, by omega⟩
        obtain ⟨i, hi⟩ := good_find hg
        obtain ⟨hil, p1, p2, p3⟩ := path_find hi
        have hle := leaD_next ho (fun w => hge k w) hi hil
        have hm := nbP_mem.1 (List.getElem_mem hil)
        have hwn := (ho _ hm).2
        dsimp only at hwn
        generalize (nbP E an)[i] = w at *
        have hgs := good_step ho hD (nb := nbP E) (fun u x => nbP_mem) hwn p3
        obtain ⟨b1, o1, c1, T1, z1, a1, c2, s1, s2, s3, s4⟩ := hN.at (v := an) (by omega)
        have hla := tosP_len E an
        have hrin : ∀ w ∈ tosP E an, 0 ≤ w ∧ w < d.length := fun w hw => by have := (ho _ (tosP_mem.1 hw)).2; dsimp only at this; omega
        refine g_skip ?_
        refine g_qt ?_
        refine g_block ?_
        refine g_seq ?_
        refine g_region ?_
        refine g_pure (p_move rfl) rfl ?_
        refine g_pure (p_move rfl) rfl ?_
        refine g_pure (p_indexAddr rfl rfl (by omega) (fun _ => s1)) rfl ?_
        refine g_pure (p_load (by rfl) rfl (Has.ro (hρ1 _ _ s2)) s3) rfl ?_
        refine g_pure (p_move rfl) rfl ?_
        refine g_pure (p_move rfl) rfl ?_
        refine g_call (Hin := []) (Hr := ?hr2) (R := ?rr2) rfl rfl rfl ?hin2 ?hc2 ?hk2
        case hin2 => repeat' (first | exact Cover.nil | exact Take.here | apply Cover.cons | apply Take.there)
        case hc2 => intro ρ' hρ hR; exact least_ok a1 da c2 dc (tosP E an) d (s4.mono fun b o h => hρ _ _ (hρ1 _ _ h)) (hDR.mono hρ) (by omega) hrin _ n hdl
        rintro _ _ ⟨rfl, rfl⟩
        rw [hle]
        refine g_pure (p_assign rfl) rfl ?_
        refine g_nil ?_
        refine g_qt ?_
        refine g_seq ?_
        refine g_region ?_
        refine g_pure (p_move rfl) rfl ?_
        refine g_pure (p_move rfl) rfl ?_
        refine g_eff (e_bs (xs := [.tmp 62]) rfl rfl rfl (by rfl) (by rfl) rfl (by rfl)) rfl (fun _ _ => ?_)
        rintro ⟨b63, rfl, rfl⟩
        refine g_eff (e_appendO (by rfl) (by rfl) rfl rfl (by first | (apply Has.own; (repeat' (first | exact Take.here | apply Take.there)); done) | exact Has.ro (by assumption)) (by rfl) (by rfl) (by repeat' (first | exact Take.here | apply Take.there)) (by omega) (by first | omega | (dsimp only; omega) | (simp <;> omega)) (by omega)) rfl (fun _ _ => ?_)
        rintro ⟨a64, c64, rfl, rfl⟩
        refine g_pure (p_assign rfl) rfl ?_
        refine g_nil ?_
        refine g_qt ?_
        refine g_region ?_
        refine g_pure (p_move rfl) rfl ?_
        first | refine g_pure (p_subi rfl rfl (by omega)) rfl ?_ | refine g_pure (p_sub rfl rfl) rfl ?_
        refine g_pure (p_assign rfl) rfl ?_
        refine g_nil ?_
        refine g_qb ?_
        refine g_qn ?_
        rw [show (((k + 1 : Nat) : Int) - 1) = (k : Int) by omega, show out.map Z.encI ++ [Value.int IntKind.i64 w] = (out ++ [w]).map Z.encI by rw [List.map_append]; rfl, show out.length + 1 = (out ++ [w]).length by rw [List.length_append]; rfl]
        exact g_next (k, w, out ++ [w], a64, c64) (by (repeat (first | exact trivial | refine ⟨by rfl, ?_⟩)); done) (by repeat' (first | exact Cover.nil | exact Take.here | apply Cover.cons | apply Take.there)) ⟨by dsimp only; rw [← hp, p1, List.append_assoc]; rfl, hgs, hwn, by dsimp only; rw [List.length_append, List.length_singleton]; omega⟩ (by dsimp only; omega)
      · obtain rfl : k = 0 := by omega
        rw [← hp, show pathP (nbP E) d v 0 at_ = [] from rfl, List.append_nil]
        refine g_exit ?_
        refine g_qt_exit ?_
        refine g_qn_exit ?_
        refine g_qb_exit ?_
        refine g_qt ?_
        refine g_seq ?_
        refine g_region ?_
        refine g_pure (p_move rfl) rfl ?_
        refine g_pure (p_assign rfl) rfl ?_
        refine g_nil ?_
        refine g_qt ?_
        refine g_ret ?_
        refine g_thaw hρ1 ?_
        exact g_post (rs := [.tmp 6]) rfl (.tmp rfl .nil) ⟨oa, oc, rfl, rfl⟩ (by repeat' (first | exact Cover.nil | exact Take.here | apply Cover.cons | apply Take.there))
end Go.Proofs.Ytmefecnjliadaaa
