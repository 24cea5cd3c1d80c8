/- Chapter 40: SpanWords, SpanSound. Conditions: none. -/
import Derived.Test.YtlcipnligbjclaaG0
namespace Go.Z.Val
set_option linter.unusedVariables false
set_option linter.unusedSimpArgs false
set_option linter.unusedSectionVars false
open Go Go.Z
theorem meet_full {x y : Int} (h : x ≤ y) (h1 : -32768 ≤ x) (h2 : y ≤ 32767) : meetS (x, y) fullS = (x, y) := by
  unfold meetS fullS; rw [ofS_of (by dsimp only; omega)]; dsimp only; congr 1 <;> omega
theorem apply_pt {op : Int} (ho : op = 7 ∨ op = 9) {x y : Int} (hx : -32768 ≤ x ∧ x ≤ 32767) (hy : -32768 ≤ y ∧ y ≤ 32767) : applyS op [(x, x), (y, y)] = ((opF op x y, opF op x y), 0) := by
  have e1 : cutS op (x, x) = (x, x) := by
    unfold cutS; rw [if_neg (by omega), if_neg (by omega), meet_full (Int.le_refl _) hx.1 hx.2]
  have e2 : cutS op (y, y) = (y, y) := by
    unfold cutS; rw [if_neg (by omega), if_neg (by omega), meet_full (Int.le_refl _) hy.1 hy.2]
  have g : groupF op = (2, 2) := by rcases ho with rfl | rfl <;> rfl
  unfold applyS
  rw [g]
  simp [e1, e2, emptyS, resS]
theorem apply_sum {x y p q : Int} (h1 : x ≤ y) (h2 : p ≤ q) (hx : -8192 ≤ x) (hy : y ≤ 8446) (hp : -8192 ≤ p) (hq : q ≤ 8446) : applyS 6 [(x, y), (p, q)] = ((x + p, y + q), 0) := by
  have e1 : cutS 6 (x, y) = (x, y) := by
    unfold cutS; rw [if_neg (by omega), if_neg (by omega), meet_full h1 (by omega) (by omega)]
  have e2 : cutS 6 (p, q) = (p, q) := by
    unfold cutS; rw [if_neg (by omega), if_neg (by omega), meet_full h2 (by omega) (by omega)]
  have g : groupF 6 = (2, 2) := rfl
  have hc : computeS 6 (x, y) (p, q) = (x + p, y + q) := by
    show wrapS (x + p) (y + q) = _
    unfold wrapS; rw [if_neg (by omega), ofS_of (by omega)]
  have hr : resS 6 (x, y) (p, q) = (x + p, y + q) := by
    unfold resS
    split
    · rename_i h
      have e : opF 6 x p = wr (wr x + wr p) := rfl
      dsimp only at h ⊢
      rw [e, wr_id (n := x) (by omega), wr_id (n := p) (by omega), wr_id (by omega), show y + q = x + p by omega]
    · exact hc
  unfold applyS
  rw [g]
  simp [e1, e2, emptyS, hr]
  omega
theorem tdiv4 {x : Int} (h : -32768 ≤ x ∧ x ≤ 32767) : -8192 ≤ x.tdiv 4 ∧ x.tdiv 4 ≤ 8191 := by
  rcases Int.le_total 0 x with h0 | h0
  · rw [Int.tdiv_eq_ediv_of_nonneg h0]; omega
  · have e : x.tdiv 4 = -((-x) / 4) := by
      have h1 : (-x).tdiv 4 = (-x) / 4 := Int.tdiv_eq_ediv_of_nonneg (by omega)
      rw [Int.neg_tdiv] at h1; omega
    rw [e]; omega
/-- a number of an interval, by a number -/
def insF (a1 a2 n : Int) : Int := if a2 < a1 then n else if n < a1 then a1 else if a2 < n then a2 else n
theorem sound_law {op : Int} {a b : Sp} {x y : Int} {N : Nat} (hN : N = if (groupF op).2 = 1 then 1 else 2) (h1 : hasS a x = true) (h2 : N = 2 → hasS b y = true) :
    ((applyS op ([a, b].take N)).2 ≠ 0 ∨ (applyF op ([x, y].take N)).2 ≠ 0 → (applyF op ([x, y].take N)).2 = 14 ∨ (applyS op ([a, b].take N)).2 = (applyF op ([x, y].take N)).2) ∧
    ((applyS op ([a, b].take N)).2 = 0 → (applyF op ([x, y].take N)).2 = 0 → (applyS op ([a, b].take N)).1.1 ≤ (applyF op ([x, y].take N)).1 ∧ (applyF op ([x, y].take N)).1 ≤ (applyS op ([a, b].take N)).1.2) := by
  rcases groupF_cases op with ⟨g1, g2⟩ | ⟨g1, g2 | g2⟩
  · rw [g2, if_neg (by decide)] at hN
    subst hN
    have e1 : (applyS op ([a, b].take 2)).2 = 2 := by unfold applyS; rw [if_pos g1]
    have e2 : (applyF op ([x, y].take 2)).2 = 2 := by unfold applyF; rw [if_pos g1]
    rw [e1, e2]
    exact ⟨fun _ => .inr rfl, fun h => absurd h (by decide)⟩
  · rw [g2, if_pos rfl] at hN
    subst hN
    show ((applyS op [a]).2 ≠ 0 ∨ (applyF op [x]).2 ≠ 0 → (applyF op [x]).2 = 14 ∨ (applyS op [a]).2 = (applyF op [x]).2) ∧ ((applyS op [a]).2 = 0 → (applyF op [x]).2 = 0 → _)
    cases ax : argB (groupF op).1 x with
    | false =>
      have e : applyF op [x] = (0, 14) := by unfold applyF; rw [if_neg g1, if_neg (by rw [g2]; simp), if_neg (by simp [ax])]
      rw [e]
      exact ⟨fun _ => .inl rfl, fun _ h => absurd h (by decide)⟩
    | true =>
      obtain ⟨p1, p2, p3⟩ := res_has g1 h1 h1 ax ax
      have e : applyF op [x] = (opF op x x, 0) := by unfold applyF; rw [if_neg g1, if_neg (by rw [g2]; simp), if_pos (by simp [ax]), g2]; rfl
      have e2 : applyS op [a] = (resS op (cutS op a) (cutS op a), 0) := by unfold applyS; rw [if_neg g1, if_neg (by rw [g2]; simp), if_neg (by simp [p1]), g2]; rfl
      rw [hasS_iff] at p3
      show _ ∧ (_ → _ → (applyS op [a]).1.1 ≤ (applyF op [x]).1 ∧ (applyF op [x]).1 ≤ (applyS op [a]).1.2)
      rw [e, e2]
      exact ⟨fun _ => .inr rfl, fun _ _ => p3⟩
  · rw [g2, if_neg (by decide)] at hN
    subst hN
    have h2 := h2 rfl
    show ((applyS op [a, b]).2 ≠ 0 ∨ (applyF op [x, y]).2 ≠ 0 → (applyF op [x, y]).2 = 14 ∨ (applyS op [a, b]).2 = (applyF op [x, y]).2) ∧ ((applyS op [a, b]).2 = 0 → (applyF op [x, y]).2 = 0 → (applyS op [a, b]).1.1 ≤ (applyF op [x, y]).1 ∧ (applyF op [x, y]).1 ≤ (applyS op [a, b]).1.2)
    cases ax : (argB (groupF op).1 x && argB (groupF op).1 y) with
    | false =>
      have e : applyF op [x, y] = (0, 14) := by unfold applyF; rw [if_neg g1, if_neg (by rw [g2]; simp), if_neg (by simp at ax ⊢; exact ax)]
      rw [e]
      exact ⟨fun _ => .inl rfl, fun _ h => absurd h (by decide)⟩
    | true =>
      rw [Bool.and_eq_true] at ax
      obtain ⟨p1, p2, p3⟩ := res_has g1 h1 h2 ax.1 ax.2
      have e : applyF op [x, y] = (opF op x y, 0) := by unfold applyF; rw [if_neg g1, if_neg (by rw [g2]; simp), if_pos (by simp [ax]), g2]; rfl
      have e2 : applyS op [a, b] = (resS op (cutS op a) (cutS op b), 0) := by unfold applyS; rw [if_neg g1, if_neg (by rw [g2]; simp), if_neg (by simp [p1, p2]), g2]; rfl
      rw [hasS_iff] at p3
      rw [e, e2]
      exact ⟨fun _ => .inr rfl, fun _ _ => p3⟩
theorem rsl_twoN {ρ : Nat → Obj → Prop} {b n : Nat} {x y : Int} {T : TypeId} {fz : Nat × Nat} (h : ρ b (.cells [.int .i64 x, .int .i64 y].toArray T fz)) (hn : n = 1 ∨ n = 2) : RSl ρ 1 (some ⟨b, 0, none⟩) n (([x, y].take n).map encI) := by
  rcases hn with rfl | rfl
  · exact RSl.of_blk (k := 1) (size := 1) h (by simp)
  · exact RSl.of_blk (k := 2) (size := 1) h (by simp)
theorem rsl_twoS {ρ : Nat → Obj → Prop} {b n : Nat} {x1 x2 y1 y2 : Int} {T : TypeId} {fz : Nat × Nat} (h : ρ b (.cells [.int .i64 x1, .int .i64 x2, .int .i64 y1, .int .i64 y2].toArray T fz)) (hn : n = 1 ∨ n = 2) : RSl ρ 2 (some ⟨b, 0, none⟩) n (([(x1, x2), (y1, y2)].take n).flatMap encC) := by
  rcases hn with rfl | rfl
  · exact RSl.of_blk (k := 1) (size := 2) h (by simp)
  · exact RSl.of_blk (k := 2) (size := 2) h (by simp)
end Go.Z.Val
namespace Go.Proofs.Ytlcipnligbjclaa
open Go Go.Z Go.Z.Val

theorem swords_ok {ρ : Nat → Obj → Prop} (x0 y0 p q : Int) (hp : 0 ≤ p ∧ p ≤ 255) (hq : 0 ≤ q ∧ q ≤ 255) :
    Con Try.prog ρ 5 #[.int .i64 x0, .int .i64 y0, .int .u8 p, .int .u8 q] [] (fun v _ => v = .bool true) := by
  have hx := wr_in x0
  have hy := wr_in y0
  refine con_intro Try.func5 Try.call5 rfl Try.ntmps5 rfl (L := [(0, _), (1, _), (2, _), (3, _)]) rfl fun w hh => ?_
  refine g_seq ?_
  refine g_region ?_
  refine g_pure (p_assign rfl) rfl ?_
  refine g_nil ?_
  refine g_qt ?_
  refine g_seq ?_
  refine g_region ?_
  refine g_pure (p_move rfl) rfl ?_
  refine g_call (Hin := []) (Hr := ?hr1) (R := ?rr1) rfl rfl rfl ?hin1 ?hc1 ?hk1
  case hin1 => repeat' (first | exact Cover.nil | exact Take.here | apply Cover.cons | apply Take.there)
  case hc1 => intro ρ' hρ hR; exact wrap_ok _
  rintro _ _ ⟨rfl, rfl⟩
  refine g_pure (p_move rfl) rfl ?_
  refine g_call (Hin := []) (Hr := ?hr2) (R := ?rr2) rfl rfl rfl ?hin2 ?hc2 ?hk2
  case hin2 => repeat' (first | exact Cover.nil | exact Take.here | apply Cover.cons | apply Take.there)
  case hc2 => intro ρ' hρ hR; exact wrap_ok _
  rintro _ _ ⟨rfl, rfl⟩
  refine g_pure (p_assign rfl) rfl ?_
  refine g_pure (p_assign rfl) rfl ?_
  refine g_nil ?_
  refine g_qt ?_
  refine g_seq ?_
  generalize wr x0 = x at *
  generalize wr y0 = y at *
  refine g_region ?_
  refine g_pure (p_move rfl) rfl ?_
  refine g_pure (p_move rfl) rfl ?_
  refine g_call (Hin := []) (Hr := ?hr3) (R := ?rr3) rfl rfl rfl ?hin3 ?hc3 ?hk3
  case hin3 => repeat' (first | exact Cover.nil | exact Take.here | apply Cover.cons | apply Take.there)
  case hc3 => intro ρ' hρ hR; exact lof_ok _ _
  rintro _ _ ⟨rfl, rfl⟩
  refine g_pure (p_move rfl) rfl ?_
  refine g_pure (p_move rfl) rfl ?_
  refine g_call (Hin := []) (Hr := ?hr4) (R := ?rr4) rfl rfl rfl ?hin4 ?hc4 ?hk4
  case hin4 => repeat' (first | exact Cover.nil | exact Take.here | apply Cover.cons | apply Take.there)
  case hc4 => intro ρ' hρ hR; exact lof_ok _ _
  rintro _ _ ⟨rfl, rfl⟩
  refine g_eff (e_bs (xs := [.tmp 24, .tmp 27]) rfl rfl rfl (by rfl) (by rfl) rfl (by rfl)) rfl (fun _ _ => ?_)
  rintro ⟨b28, rfl, rfl⟩
  refine g_call (Hin := []) (Hr := ?hr5) (R := ?rr5) rfl rfl rfl ?hin5 ?hc5 ?hk5
  case hin5 => repeat' (first | exact Cover.nil | exact Take.here | apply Cover.cons | apply Take.there)
  case hc5 => intro ρ' hρ hR; exact ap_q (sapply_ok 7 (args := [(x, x), (y, y)]) (RSl.of_blk hR.1.blk (by simp)) (by simp))
  rintro _ _ ⟨rfl, rfl⟩
  rw [apply_pt (.inl rfl) hx hy, show opF 7 x y = wr (wr x - wr y) from rfl]
  dsimp only
  refine g_pure (p_move rfl) rfl ?_
  refine g_pure (p_extract rfl rfl) rfl ?_
  refine g_pure (p_extract rfl rfl) rfl ?_
  refine g_eff (e_alloc (by rfl)) rfl (fun _ _ => ?_)
  rintro ⟨b9, rfl, rfl⟩
  first | refine g_eff0 (e_storeO rfl rfl (by rfl) (by rfl) (by rfl) (by repeat' (first | exact Take.here | apply Take.there)) (by rfl)) (fun _ _ => ?_) | refine g_eff0 (e_storeN rfl rfl (by rfl) (by rfl) (by rfl) (by repeat' (first | exact Take.here | apply Take.there)) (by simp)) (fun _ _ => ?_)
  rintro rfl
  refine g_pure (p_assign rfl) rfl ?_
  refine g_nil ?_
  refine g_qt ?_
  refine g_seq ?_
  refine g_region ?_
  refine g_pure (p_move rfl) rfl ?_
  refine g_pure (p_move rfl) rfl ?_
  refine g_call (Hin := []) (Hr := ?hr6) (R := ?rr6) rfl rfl rfl ?hin6 ?hc6 ?hk6
  case hin6 => repeat' (first | exact Cover.nil | exact Take.here | apply Cover.cons | apply Take.there)
  case hc6 => intro ρ' hρ hR; exact lof_ok _ _
  rintro _ _ ⟨rfl, rfl⟩
  refine g_pure (p_move rfl) rfl ?_
  refine g_pure (p_move rfl) rfl ?_
  refine g_call (Hin := []) (Hr := ?hr7) (R := ?rr7) rfl rfl rfl ?hin7 ?hc7 ?hk7
  case hin7 => repeat' (first | exact Cover.nil | exact Take.here | apply Cover.cons | apply Take.there)
  case hc7 => intro ρ' hρ hR; exact lof_ok _ _
  rintro _ _ ⟨rfl, rfl⟩
  refine g_eff (e_bs (xs := [.tmp 35, .tmp 38]) rfl rfl rfl (by rfl) (by rfl) rfl (by rfl)) rfl (fun _ _ => ?_)
  rintro ⟨b39, rfl, rfl⟩
  refine g_call (Hin := []) (Hr := ?hr8) (R := ?rr8) rfl rfl rfl ?hin8 ?hc8 ?hk8
  case hin8 => repeat' (first | exact Cover.nil | exact Take.here | apply Cover.cons | apply Take.there)
  case hc8 => intro ρ' hρ hR; exact ap_q (sapply_ok 9 (args := [(x, x), (y, y)]) (RSl.of_blk hR.1.blk (by simp)) (by simp))
  rintro _ _ ⟨rfl, rfl⟩
  rw [apply_pt (.inr rfl) hx hy, show opF 9 x y = if wr y = 0 then 0 else wr ((wr x).tdiv (wr y)) from rfl]
  dsimp only
  refine g_pure (p_move rfl) rfl ?_
  refine g_pure (p_extract rfl rfl) rfl ?_
  refine g_pure (p_extract rfl rfl) rfl ?_
  refine g_eff (e_alloc (by rfl)) rfl (fun _ _ => ?_)
  rintro ⟨b11, rfl, rfl⟩
  first | refine g_eff0 (e_storeO rfl rfl (by rfl) (by rfl) (by rfl) (by repeat' (first | exact Take.here | apply Take.there)) (by rfl)) (fun _ _ => ?_) | refine g_eff0 (e_storeN rfl rfl (by rfl) (by rfl) (by rfl) (by repeat' (first | exact Take.here | apply Take.there)) (by simp)) (fun _ _ => ?_)
  rintro rfl
  refine g_pure (p_assign rfl) rfl ?_
  refine g_nil ?_
  refine g_qt ?_
  refine g_seq ?_
  refine g_seq ?_
  refine m_begin0 (.fl 0 0 (.fl 1 0 (.fl 2 0 (.fl 3 0 (.fl 4 0 (.fl 5 0 (.fl 6 0 (.fl 7 1 (.fl 8 0 (.fl 9 0 (.fl 11 0 (.fl 12 0 (.ef 10 (.ef 13 (.ef 14 (.fl 15 0 (.fl 16 0 (.fl 17 0 (.fl 18 1 (.fl 19 0 (.fl 20 0 (.fl 22 0 (.fl 23 0 (.ef 21 (.ef 24 (.ef 25 (.fl 26 0 (.fl 27 0 .done)))))))))))))))))))))))))))) (by kernel_rfl) (by kernel_rfl) ?_
  refine m_float0 rfl (fun _ _ => p_move rfl) rfl ?_
  refine m_float0 rfl (fun _ _ => p_neqF rfl rfl rfl) rfl ?_
  refine m_float0 rfl (fun _ _ => p_move rfl) rfl ?_
  refine m_yes0 rfl rfl rfl (fun _ _ => p_move rfl) rfl ?_
  refine m_yes0 rfl rfl rfl (fun _ _ => p_neqF rfl rfl rfl) rfl ?_
  first | refine m_float0 rfl (fun _ _ => p_pickt rfl rfl) rfl ?_ | refine m_float0 rfl (fun _ _ => p_pickf rfl rfl) rfl ?_
  refine m_float0 rfl (fun _ _ => p_move rfl) rfl ?_
  first | refine m_yes rfl rfl rfl (p_loadO (by rfl) rfl (by first | (apply Has.own; (repeat' (first | exact Take.here | apply Take.there)); done) | exact Has.ro (by assumption)) (by rfl)) rfl ?_ | refine m_yes rfl rfl rfl (p_loadN (by rfl) rfl (by first | (apply Has.own; (repeat' (first | exact Take.here | apply Take.there)); done) | exact Has.ro (by assumption)) (by first | rfl | assumption)) rfl ?_
  refine m_yes0 rfl rfl rfl (fun _ _ => p_move rfl) rfl ?_
  refine m_yes0 rfl rfl rfl (fun _ _ => p_move rfl) rfl ?_
  refine m_yes0 rfl rfl rfl (fun _ _ => p_move rfl) rfl ?_
  refine m_yes0 rfl rfl rfl (fun _ _ => p_move rfl) rfl ?_
  refine m_call (Hin := []) (Hr := ?hr9) (R := ?rr9) rfl (wantedY rfl rfl) rfl rfl rfl ?hin9 ?hc9 ?hk9
  case hin9 => repeat' (first | exact Cover.nil | exact Take.here | apply Cover.cons | apply Take.there)
  case hc9 => intro ρ' hρ hR; exact sub_ok _ _
  rintro _ _ ⟨rfl, rfl⟩
  refine ⟨.some (by repeat' (first | exact Cover.nil | exact Take.here | apply Cover.cons | apply Take.there)), ?_⟩
  refine m_call (Hin := []) (Hr := ?hr10) (R := ?rr10) rfl (wantedY rfl rfl) rfl rfl rfl ?hin10 ?hc10 ?hk10
  case hin10 => repeat' (first | exact Cover.nil | exact Take.here | apply Cover.cons | apply Take.there)
  case hc10 => intro ρ' hρ hR; exact sub_ok _ _
  rintro _ _ ⟨rfl, rfl⟩
  refine ⟨.some (by repeat' (first | exact Cover.nil | exact Take.here | apply Cover.cons | apply Take.there)), ?_⟩
  refine m_call (Hin := []) (Hr := ?hr11) (R := ?rr11) rfl (wantedY rfl rfl) rfl rfl rfl ?hin11 ?hc11 ?hk11
  case hin11 => repeat' (first | exact Cover.nil | exact Take.here | apply Cover.cons | apply Take.there)
  case hc11 => intro ρ' hρ hR; exact lof_ok _ _
  rintro _ _ ⟨rfl, rfl⟩
  refine ⟨.some (by repeat' (first | exact Cover.nil | exact Take.here | apply Cover.cons | apply Take.there)), ?_⟩
  refine m_yes0 rfl rfl rfl (fun _ _ => p_neagg (eqSpanT 9998 _ _) (by kernel_rfl) rfl rfl) rfl ?_
  first | refine m_float0 rfl (fun _ _ => p_pickt rfl rfl) rfl ?_ | refine m_float0 rfl (fun _ _ => p_pickf rfl rfl) rfl ?_
  refine m_float0 rfl (fun _ _ => p_move rfl) rfl ?_
  first | refine m_yes rfl rfl rfl (p_loadO (by rfl) rfl (by first | (apply Has.own; (repeat' (first | exact Take.here | apply Take.there)); done) | exact Has.ro (by assumption)) (by rfl)) rfl ?_ | refine m_yes rfl rfl rfl (p_loadN (by rfl) rfl (by first | (apply Has.own; (repeat' (first | exact Take.here | apply Take.there)); done) | exact Has.ro (by assumption)) (by first | rfl | assumption)) rfl ?_
  refine m_yes0 rfl rfl rfl (fun _ _ => p_move rfl) rfl ?_
  refine m_yes0 rfl rfl rfl (fun _ _ => p_move rfl) rfl ?_
  refine m_yes0 rfl rfl rfl (fun _ _ => p_move rfl) rfl ?_
  refine m_yes0 rfl rfl rfl (fun _ _ => p_move rfl) rfl ?_
  refine m_call (Hin := []) (Hr := ?hr12) (R := ?rr12) rfl (wantedY rfl rfl) rfl rfl rfl ?hin12 ?hc12 ?hk12
  case hin12 => repeat' (first | exact Cover.nil | exact Take.here | apply Cover.cons | apply Take.there)
  case hc12 => intro ρ' hρ hR; exact div_ok _ _
  rintro _ _ ⟨rfl, rfl⟩
  refine ⟨.some (by repeat' (first | exact Cover.nil | exact Take.here | apply Cover.cons | apply Take.there)), ?_⟩
  refine m_call (Hin := []) (Hr := ?hr13) (R := ?rr13) rfl (wantedY rfl rfl) rfl rfl rfl ?hin13 ?hc13 ?hk13
  case hin13 => repeat' (first | exact Cover.nil | exact Take.here | apply Cover.cons | apply Take.there)
  case hc13 => intro ρ' hρ hR; exact div_ok _ _
  rintro _ _ ⟨rfl, rfl⟩
  refine ⟨.some (by repeat' (first | exact Cover.nil | exact Take.here | apply Cover.cons | apply Take.there)), ?_⟩
  refine m_call (Hin := []) (Hr := ?hr14) (R := ?rr14) rfl (wantedY rfl rfl) rfl rfl rfl ?hin14 ?hc14 ?hk14
  case hin14 => repeat' (first | exact Cover.nil | exact Take.here | apply Cover.cons | apply Take.there)
  case hc14 => intro ρ' hρ hR; exact lof_ok _ _
  rintro _ _ ⟨rfl, rfl⟩
  refine ⟨.some (by repeat' (first | exact Cover.nil | exact Take.here | apply Cover.cons | apply Take.there)), ?_⟩
  refine m_yes0 rfl rfl rfl (fun _ _ => p_neagg (eqSpanT 9998 _ _) (by kernel_rfl) rfl rfl) rfl ?_
  first | refine m_float0 rfl (fun _ _ => p_pickt rfl rfl) rfl ?_ | refine m_float0 rfl (fun _ _ => p_pickf rfl rfl) rfl ?_
  refine m_nil ?_
  refine g_qt ?_
  refine g_iff rfl ?_
  refine g_skip ?_
  refine g_qt ?_
  refine g_seq ?_
  refine g_region ?_
  refine g_pure (p_move rfl) rfl ?_
  refine g_pure (p_quoi rfl rfl (by omega) (by omega)) rfl ?_
  refine g_pure (p_move rfl) rfl ?_
  refine g_pure (p_quoi rfl rfl (by omega) (by omega)) rfl ?_
  refine g_pure (p_assign rfl) rfl ?_
  refine g_pure (p_assign rfl) rfl ?_
  refine g_nil ?_
  refine g_qt ?_
  refine g_seq ?_
  have hx4 := tdiv4 hx
  have hy4 := tdiv4 hy
  generalize x.tdiv 4 = u at *
  generalize y.tdiv 4 = v at *
  refine g_region ?_
  refine g_pure (p_move rfl) rfl ?_
  refine g_pure (p_move rfl) rfl ?_
  refine g_pure (p_move rfl) rfl ?_
  first | refine g_pure (p_convi (by rfl) rfl (by omega)) rfl ?_ | refine g_pure (p_conv (by rfl) rfl) rfl ?_
  first | refine g_pure (p_addi rfl rfl (by omega)) rfl ?_ | refine g_pure (p_add rfl rfl) rfl ?_
  refine g_call (Hin := []) (Hr := ?hr15) (R := ?rr15) rfl rfl rfl ?hin15 ?hc15 ?hk15
  case hin15 => repeat' (first | exact Cover.nil | exact Take.here | apply Cover.cons | apply Take.there)
  case hc15 => intro ρ' hρ hR; exact lof_ok _ _
  rintro _ _ ⟨rfl, rfl⟩
  refine g_pure (p_move rfl) rfl ?_
  refine g_pure (p_move rfl) rfl ?_
  refine g_pure (p_move rfl) rfl ?_
  first | refine g_pure (p_convi (by rfl) rfl (by omega)) rfl ?_ | refine g_pure (p_conv (by rfl) rfl) rfl ?_
  first | refine g_pure (p_addi rfl rfl (by omega)) rfl ?_ | refine g_pure (p_add rfl rfl) rfl ?_
  refine g_call (Hin := []) (Hr := ?hr16) (R := ?rr16) rfl rfl rfl ?hin16 ?hc16 ?hk16
  case hin16 => repeat' (first | exact Cover.nil | exact Take.here | apply Cover.cons | apply Take.there)
  case hc16 => intro ρ' hρ hR; exact lof_ok _ _
  rintro _ _ ⟨rfl, rfl⟩
  refine g_eff (e_alloc (by rfl)) rfl (fun _ _ => ?_)
  rintro ⟨b13, rfl, rfl⟩
  refine g_eff (e_alloc (by rfl)) rfl (fun _ _ => ?_)
  rintro ⟨b14, rfl, rfl⟩
  first | refine g_eff0 (e_storeO rfl rfl (by rfl) (by rfl) (by rfl) (by repeat' (first | exact Take.here | apply Take.there)) (by rfl)) (fun _ _ => ?_) | refine g_eff0 (e_storeN rfl rfl (by rfl) (by rfl) (by rfl) (by repeat' (first | exact Take.here | apply Take.there)) (by simp)) (fun _ _ => ?_)
  rintro rfl
  first | refine g_eff0 (e_storeO rfl rfl (by rfl) (by rfl) (by rfl) (by repeat' (first | exact Take.here | apply Take.there)) (by rfl)) (fun _ _ => ?_) | refine g_eff0 (e_storeN rfl rfl (by rfl) (by rfl) (by rfl) (by repeat' (first | exact Take.here | apply Take.there)) (by simp)) (fun _ _ => ?_)
  rintro rfl
  refine g_nil ?_
  refine g_qt ?_
  refine g_seq ?_
  refine g_region ?_
  first | refine g_pure (p_loadO (by rfl) rfl (by first | (apply Has.own; (repeat' (first | exact Take.here | apply Take.there)); done) | exact Has.ro (by assumption)) (by rfl)) rfl ?_ | refine g_pure (p_loadN (by rfl) rfl (by first | (apply Has.own; (repeat' (first | exact Take.here | apply Take.there)); done) | exact Has.ro (by assumption)) (by first | rfl | assumption)) rfl ?_
  first | refine g_pure (p_loadO (by rfl) rfl (by first | (apply Has.own; (repeat' (first | exact Take.here | apply Take.there)); done) | exact Has.ro (by assumption)) (by rfl)) rfl ?_ | refine g_pure (p_loadN (by rfl) rfl (by first | (apply Has.own; (repeat' (first | exact Take.here | apply Take.there)); done) | exact Has.ro (by assumption)) (by first | rfl | assumption)) rfl ?_
  refine g_eff (e_bs (xs := [.tmp 88, .tmp 89]) rfl rfl rfl (by rfl) (by rfl) rfl (by rfl)) rfl (fun _ _ => ?_)
  rintro ⟨b90, rfl, rfl⟩
  refine g_call (Hin := []) (Hr := ?hr17) (R := ?rr17) rfl rfl rfl ?hin17 ?hc17 ?hk17
  case hin17 => repeat' (first | exact Cover.nil | exact Take.here | apply Cover.cons | apply Take.there)
  case hc17 => intro ρ' hρ hR; exact ap_q (sapply_ok 6 (args := [(u, u + p), (v, v + q)]) (RSl.of_blk hR.1.blk (by simp)) (by simp))
  rintro _ _ ⟨rfl, rfl⟩
  have e0 : applyS 6 [(u, u + p), (v, v + q)] = ((wr (wr u + wr v), wr (wr (u + p) + wr (v + q))), 0) := by
    rw [apply_sum (by omega) (by omega) (by omega) (by omega) (by omega) (by omega), wr_id (n := u) (by omega), wr_id (n := v) (by omega), wr_id (n := u + v) (by omega), wr_id (n := u + p) (by omega), wr_id (n := v + q) (by omega), wr_id (by omega), show u + p + (v + q) = u + p + (v + q) from rfl]
  rw [e0]
  dsimp only
  refine g_pure (p_move rfl) rfl ?_
  refine g_pure (p_extract rfl rfl) rfl ?_
  refine g_pure (p_extract rfl rfl) rfl ?_
  refine g_eff (e_alloc (by rfl)) rfl (fun _ _ => ?_)
  rintro ⟨b15, rfl, rfl⟩
  first | refine g_eff0 (e_storeO rfl rfl (by rfl) (by rfl) (by rfl) (by repeat' (first | exact Take.here | apply Take.there)) (by rfl)) (fun _ _ => ?_) | refine g_eff0 (e_storeN rfl rfl (by rfl) (by rfl) (by rfl) (by repeat' (first | exact Take.here | apply Take.there)) (by simp)) (fun _ _ => ?_)
  rintro rfl
  refine g_pure (p_assign rfl) rfl ?_
  refine g_nil ?_
  refine g_qt ?_
  refine g_seq ?_
  refine m_begin0 (.fl 0 0 (.fl 1 0 (.fl 2 0 (.fl 3 1 (.fl 4 0 (.fl 5 0 (.fl 7 0 (.fl 8 0 (.fl 9 0 (.fl 10 0 (.fl 11 0 (.fl 12 0 (.fl 13 0 (.fl 14 0 (.ef 6 (.ef 15 (.ef 16 (.fl 17 0 (.fl 18 0 (.fl 19 0 (.ef 20 (.fl 21 0 (.fl 22 0 .done))))))))))))))))))))))) (by kernel_rfl) (by kernel_rfl) ?_
  refine m_float0 rfl (fun _ _ => p_move rfl) rfl ?_
  refine m_float0 rfl (fun _ _ => p_eqlT rfl rfl rfl) rfl ?_
  refine m_float0 rfl (fun _ _ => p_move rfl) rfl ?_
  first | refine m_yes rfl rfl rfl (p_loadO (by rfl) rfl (by first | (apply Has.own; (repeat' (first | exact Take.here | apply Take.there)); done) | exact Has.ro (by assumption)) (by rfl)) rfl ?_ | refine m_yes rfl rfl rfl (p_loadN (by rfl) rfl (by first | (apply Has.own; (repeat' (first | exact Take.here | apply Take.there)); done) | exact Has.ro (by assumption)) (by first | rfl | assumption)) rfl ?_
  refine m_yes0 rfl rfl rfl (fun _ _ => p_move rfl) rfl ?_
  refine m_yes0 rfl rfl rfl (fun _ _ => p_move rfl) rfl ?_
  refine m_yes0 rfl rfl rfl (fun _ _ => p_move rfl) rfl ?_
  refine m_yes0 rfl rfl rfl (fun _ _ => p_move rfl) rfl ?_
  first | refine m_yes0 rfl rfl rfl (fun _ _ => p_convi (by rfl) rfl (by omega)) rfl ?_ | refine m_yes0 rfl rfl rfl (fun _ _ => p_conv (by rfl) rfl) rfl ?_
  first | refine m_yes0 rfl rfl rfl (fun _ _ => p_addi rfl rfl (by omega)) rfl ?_ | refine m_yes0 rfl rfl rfl (fun _ _ => p_add rfl rfl) rfl ?_
  refine m_yes0 rfl rfl rfl (fun _ _ => p_move rfl) rfl ?_
  refine m_yes0 rfl rfl rfl (fun _ _ => p_move rfl) rfl ?_
  first | refine m_yes0 rfl rfl rfl (fun _ _ => p_convi (by rfl) rfl (by omega)) rfl ?_ | refine m_yes0 rfl rfl rfl (fun _ _ => p_conv (by rfl) rfl) rfl ?_
  first | refine m_yes0 rfl rfl rfl (fun _ _ => p_addi rfl rfl (by omega)) rfl ?_ | refine m_yes0 rfl rfl rfl (fun _ _ => p_add rfl rfl) rfl ?_
  refine m_call (Hin := []) (Hr := ?hr18) (R := ?rr18) rfl (wantedY rfl rfl) rfl rfl rfl ?hin18 ?hc18 ?hk18
  case hin18 => repeat' (first | exact Cover.nil | exact Take.here | apply Cover.cons | apply Take.there)
  case hc18 => intro ρ' hρ hR; exact add_ok _ _
  rintro _ _ ⟨rfl, rfl⟩
  refine ⟨.some (by repeat' (first | exact Cover.nil | exact Take.here | apply Cover.cons | apply Take.there)), ?_⟩
  refine m_call (Hin := []) (Hr := ?hr19) (R := ?rr19) rfl (wantedY rfl rfl) rfl rfl rfl ?hin19 ?hc19 ?hk19
  case hin19 => repeat' (first | exact Cover.nil | exact Take.here | apply Cover.cons | apply Take.there)
  case hc19 => intro ρ' hρ hR; exact add_ok _ _
  rintro _ _ ⟨rfl, rfl⟩
  refine ⟨.some (by repeat' (first | exact Cover.nil | exact Take.here | apply Cover.cons | apply Take.there)), ?_⟩
  refine m_call (Hin := []) (Hr := ?hr20) (R := ?rr20) rfl (wantedY rfl rfl) rfl rfl rfl ?hin20 ?hc20 ?hk20
  case hin20 => repeat' (first | exact Cover.nil | exact Take.here | apply Cover.cons | apply Take.there)
  case hc20 => intro ρ' hρ hR; exact lof_ok _ _
  rintro _ _ ⟨rfl, rfl⟩
  refine ⟨.some (by repeat' (first | exact Cover.nil | exact Take.here | apply Cover.cons | apply Take.there)), ?_⟩
  refine m_yes0 rfl rfl rfl (fun _ _ => p_eqagg (eqSpanT 9998 _ _) (by kernel_rfl) rfl rfl) rfl ?_
  first | refine m_float0 rfl (fun _ _ => p_pickt rfl rfl) rfl ?_ | refine m_float0 rfl (fun _ _ => p_pickf rfl rfl) rfl ?_
  refine m_float0 rfl (fun _ _ => p_move rfl) rfl ?_
  refine m_call (Hin := []) (Hr := ?hr21) (R := ?rr21) rfl (wantedY rfl rfl) rfl rfl rfl ?hin21 ?hc21 ?hk21
  case hin21 => repeat' (first | exact Cover.nil | exact Take.here | apply Cover.cons | apply Take.there)
  case hc21 => intro ρ' hρ hR; exact awake_ok
  rintro _ _ ⟨rfl, rfl⟩
  refine ⟨.none (by kernel_rfl), ?_⟩
  first | refine m_float0 rfl (fun _ _ => p_pickt rfl rfl) rfl ?_ | refine m_float0 rfl (fun _ _ => p_pickf rfl rfl) rfl ?_
  refine m_float0 rfl (fun _ _ => p_assign rfl) rfl ?_
  refine m_nil ?_
  refine g_qt ?_
  refine g_ret ?_
  exact g_post (Ho := []) (rs := [.tmp 8]) rfl (.tmp rfl .nil) rfl .nil

theorem inside_ok {ρ : Nat → Obj → Prop} (a1 a2 z : Int) : Con Try.prog ρ 12 #[.agg #[.int .i64 a1, .int .i64 a2], .int .i64 z] [] (fun v H => v = .int .i64 (insF a1 a2 z) ∧ H = []) := by
  refine con_intro Try.func12 Try.call12 rfl Try.ntmps12 rfl (L := [(0, _), (1, _)]) rfl fun w hh => ?_
  refine g_seq ?_
  refine g_region ?_
  refine g_eff (e_box rfl (by rfl)) rfl (fun _ _ => ?_)
  rintro ⟨b2, rfl, rfl⟩
  refine g_pure (p_assign rfl) rfl ?_
  refine g_nil ?_
  refine g_qt ?_
  refine g_seq ?_
  refine g_seq ?_
  refine g_region ?_
  refine g_pure (p_fieldAddr rfl) rfl ?_
  refine g_pure (p_load (by rfl) rfl (by first | (apply Has.own; (repeat' (first | exact Take.here | apply Take.there)); done) | exact Has.ro (by assumption)) (by first | rfl | assumption)) rfl ?_
  refine g_pure (p_fieldAddr rfl) rfl ?_
  refine g_pure (p_load (by rfl) rfl (by first | (apply Has.own; (repeat' (first | exact Take.here | apply Take.there)); done) | exact Has.ro (by assumption)) (by first | rfl | assumption)) rfl ?_
  refine g_pure (p_gtr rfl rfl) rfl ?_
  refine g_nil ?_
  refine g_qt ?_
  refine g_ifdL rfl (fun h1 => ?_) (fun h1 => ?_)
  · refine g_seq ?_
    refine g_region ?_
    refine g_pure (p_move rfl) rfl ?_
    refine g_pure (p_assign rfl) rfl ?_
    refine g_nil ?_
    refine g_qt ?_
    refine g_ret ?_
    refine g_qt_ret ?_
    exact g_post (Ho := []) (rs := [.tmp 4]) rfl (.tmp rfl .nil) ⟨by unfold insF; (repeat' (first | rw [if_pos (by omega)] | rw [if_neg (by omega)])) <;> rfl, rfl⟩ (by repeat' (first | exact Cover.nil | exact Take.here | apply Cover.cons | apply Take.there))
  · refine g_skip ?_
    refine g_qt ?_
    refine g_seq ?_
    refine g_seq ?_
    refine g_region ?_
    refine g_pure (p_move rfl) rfl ?_
    refine g_pure (p_fieldAddr rfl) rfl ?_
    refine g_pure (p_load (by rfl) rfl (by first | (apply Has.own; (repeat' (first | exact Take.here | apply Take.there)); done) | exact Has.ro (by assumption)) (by first | rfl | assumption)) rfl ?_
    refine g_pure (p_lss rfl rfl) rfl ?_
    refine g_nil ?_
    refine g_qt ?_
    refine g_ifdL rfl (fun h2 => ?_) (fun h2 => ?_)
    · refine g_seq ?_
      refine g_region ?_
      refine g_pure (p_fieldAddr rfl) rfl ?_
      refine g_pure (p_load (by rfl) rfl (by first | (apply Has.own; (repeat' (first | exact Take.here | apply Take.there)); done) | exact Has.ro (by assumption)) (by first | rfl | assumption)) rfl ?_
      refine g_pure (p_assign rfl) rfl ?_
      refine g_nil ?_
      refine g_qt ?_
      refine g_ret ?_
      refine g_qt_ret ?_
      exact g_post (Ho := []) (rs := [.tmp 4]) rfl (.tmp rfl .nil) ⟨by unfold insF; (repeat' (first | rw [if_pos (by omega)] | rw [if_neg (by omega)])) <;> rfl, rfl⟩ (by repeat' (first | exact Cover.nil | exact Take.here | apply Cover.cons | apply Take.there))
    · refine g_skip ?_
      refine g_qt ?_
      refine g_seq ?_
      refine g_seq ?_
      refine g_region ?_
      refine g_pure (p_move rfl) rfl ?_
      refine g_pure (p_fieldAddr rfl) rfl ?_
      refine g_pure (p_load (by rfl) rfl (by first | (apply Has.own; (repeat' (first | exact Take.here | apply Take.there)); done) | exact Has.ro (by assumption)) (by first | rfl | assumption)) rfl ?_
      refine g_pure (p_gtr rfl rfl) rfl ?_
      refine g_nil ?_
      refine g_qt ?_
      refine g_ifdL rfl (fun h3 => ?_) (fun h3 => ?_)
      · refine g_seq ?_
        refine g_region ?_
        refine g_pure (p_fieldAddr rfl) rfl ?_
        refine g_pure (p_load (by rfl) rfl (by first | (apply Has.own; (repeat' (first | exact Take.here | apply Take.there)); done) | exact Has.ro (by assumption)) (by first | rfl | assumption)) rfl ?_
        refine g_pure (p_assign rfl) rfl ?_
        refine g_nil ?_
        refine g_qt ?_
        refine g_ret ?_
        refine g_qt_ret ?_
        exact g_post (Ho := []) (rs := [.tmp 4]) rfl (.tmp rfl .nil) ⟨by unfold insF; (repeat' (first | rw [if_pos (by omega)] | rw [if_neg (by omega)])) <;> rfl, rfl⟩ (by repeat' (first | exact Cover.nil | exact Take.here | apply Cover.cons | apply Take.there))
      · refine g_skip ?_
        refine g_qt ?_
        refine g_seq ?_
        refine g_region ?_
        refine g_pure (p_move rfl) rfl ?_
        refine g_pure (p_assign rfl) rfl ?_
        refine g_nil ?_
        refine g_qt ?_
        refine g_ret ?_
        exact g_post (Ho := []) (rs := [.tmp 4]) rfl (.tmp rfl .nil) ⟨by unfold insF; (repeat' (first | rw [if_pos (by omega)] | rw [if_neg (by omega)])) <;> rfl, rfl⟩ (by repeat' (first | exact Cover.nil | exact Take.here | apply Cover.cons | apply Take.there))
theorem sapplyk_ok {ρ : Nat → Obj → Prop} (op : Int) {aa : Option Addr} {ac k : Nat} {args : List Sp} (hk : k = args.length) (ha : RSl ρ 2 aa k (args.flatMap encC)) (hlen : k ≤ 1000000) :
    Con Try.prog ρ 10 #[.int .i64 op, .slice aa k ac] [] (ApP (applyS op args)) := by
  subst hk; exact sapply_ok op ha hlen
theorem ssound_ok {ρ : Nat → Obj → Prop} (op x1 x2 y1 y2 p0 q0 : Int) :
    Con Try.prog ρ 4 #[.int .i64 op, .agg #[.int .i64 x1, .int .i64 x2], .agg #[.int .i64 y1, .int .i64 y2], .int .i64 p0, .int .i64 q0] [] (fun v _ => v = .bool true) := by
  obtain ⟨p, hp⟩ : ∃ p, insF x1 x2 p0 = p := ⟨_, rfl⟩
  obtain ⟨q, hq⟩ : ∃ q, insF y1 y2 q0 = q := ⟨_, rfl⟩
  refine con_intro Try.func4 Try.call4 rfl Try.ntmps4 rfl (L := [(0, _), (1, _), (2, _), (3, _), (4, _)]) rfl fun w hh => ?_
  refine g_seq ?_
  refine g_region ?_
  refine g_eff (e_box rfl (by rfl)) rfl (fun _ _ => ?_)
  rintro ⟨b6, rfl, rfl⟩
  refine g_eff (e_box rfl (by rfl)) rfl (fun _ _ => ?_)
  rintro ⟨b7, rfl, rfl⟩
  refine g_pure (p_assign rfl) rfl ?_
  refine g_nil ?_
  refine g_qt ?_
  refine g_seq ?_
  refine g_join (fun y : Nat × Nat => [(0, .int .i64 op), (11, .slice (some ⟨y.1, 0, none⟩) 2 2), (12, .slice (some ⟨y.2, 0, none⟩) 2 2)])
    (fun y => [Blk y.2 (.cells [.int .i64 p, .int .i64 q].toArray 3 (0, 0)), Blk y.1 (.cells [.int .i64 x1, .int .i64 x2, .int .i64 y1, .int .i64 y2].toArray 25 (0, 0))]) (fun _ => True) ?_ ?_
  · refine m_begin0 (.fl 0 1 (.fl 1 1 (.fl 3 1 (.fl 4 0 (.fl 6 1 (.fl 7 0 (.or (.ef 2 (.ef 5 (.ef 8 (.fl 10 0 (.ef 9 (.fl 11 0 .done)))))) (.ef 5 (.or (.ef 2 (.ef 8 (.fl 10 0 (.ef 9 (.fl 11 0 .done))))) (.ef 8 (.or (.ef 2 (.fl 10 0 (.ef 9 (.fl 11 0 .done)))) (.ef 9 (.ef 2 (.fl 10 0 (.fl 11 0 .done))))))))))))))) (by kernel_rfl) (by kernel_rfl) ?_
    first | refine m_float rfl (p_loadO (by rfl) rfl (by first | (apply Has.own; (repeat' (first | exact Take.here | apply Take.there)); done) | exact Has.ro (by assumption)) (by rfl)) rfl ?_ | refine m_float rfl (p_loadN (by rfl) rfl (by first | (apply Has.own; (repeat' (first | exact Take.here | apply Take.there)); done) | exact Has.ro (by assumption)) (by first | rfl | assumption)) rfl ?_
    first | refine m_float rfl (p_loadO (by rfl) rfl (by first | (apply Has.own; (repeat' (first | exact Take.here | apply Take.there)); done) | exact Has.ro (by assumption)) (by rfl)) rfl ?_ | refine m_float rfl (p_loadN (by rfl) rfl (by first | (apply Has.own; (repeat' (first | exact Take.here | apply Take.there)); done) | exact Has.ro (by assumption)) (by first | rfl | assumption)) rfl ?_
    first | refine m_float rfl (p_loadO (by rfl) rfl (by first | (apply Has.own; (repeat' (first | exact Take.here | apply Take.there)); done) | exact Has.ro (by assumption)) (by rfl)) rfl ?_ | refine m_float rfl (p_loadN (by rfl) rfl (by first | (apply Has.own; (repeat' (first | exact Take.here | apply Take.there)); done) | exact Has.ro (by assumption)) (by first | rfl | assumption)) rfl ?_
    refine m_float0 rfl (fun _ _ => p_move rfl) rfl ?_
    first | refine m_float rfl (p_loadO (by rfl) rfl (by first | (apply Has.own; (repeat' (first | exact Take.here | apply Take.there)); done) | exact Has.ro (by assumption)) (by rfl)) rfl ?_ | refine m_float rfl (p_loadN (by rfl) rfl (by first | (apply Has.own; (repeat' (first | exact Take.here | apply Take.there)); done) | exact Has.ro (by assumption)) (by first | rfl | assumption)) rfl ?_
    refine m_float0 rfl (fun _ _ => p_move rfl) rfl ?_
    refine m_or ?_ ?_
    · refine m_eff rfl (e_bs (xs := [.tmp 18, .tmp 19]) rfl rfl rfl (by rfl) (by rfl) rfl (by rfl)) rfl (fun _ _ => ?_)
      rintro ⟨b20, rfl, rfl⟩
      refine ⟨.some (by repeat' (first | exact Cover.nil | exact Take.here | apply Cover.cons | apply Take.there)), ?_⟩
      refine m_call (Hin := []) (Hr := ?hr22) (R := ?rr22) rfl wantedN rfl rfl rfl ?hin22 ?hc22 ?hk22
      case hin22 => repeat' (first | exact Cover.nil | exact Take.here | apply Cover.cons | apply Take.there)
      case hc22 => intro ρ' hρ hR; exact inside_ok _ _ _
      rintro _ _ ⟨rfl, rfl⟩
      refine ⟨.some (by repeat' (first | exact Cover.nil | exact Take.here | apply Cover.cons | apply Take.there)), ?_⟩
      refine m_call (Hin := []) (Hr := ?hr23) (R := ?rr23) rfl wantedN rfl rfl rfl ?hin23 ?hc23 ?hk23
      case hin23 => repeat' (first | exact Cover.nil | exact Take.here | apply Cover.cons | apply Take.there)
      case hc23 => intro ρ' hρ hR; exact inside_ok _ _ _
      rintro _ _ ⟨rfl, rfl⟩
      refine ⟨.none (by kernel_rfl), ?_⟩
      refine m_float0 rfl (fun _ _ => p_assign rfl) rfl ?_
      refine m_eff rfl (e_bs (xs := [.tmp 23, .tmp 26]) rfl rfl rfl (by rfl) (by rfl) rfl (by rfl)) rfl (fun _ _ => ?_)
      rintro ⟨b27, rfl, rfl⟩
      refine ⟨.none (by kernel_rfl), ?_⟩
      refine m_float0 rfl (fun _ _ => p_assign rfl) rfl ?_
      refine m_nil ?_
      refine g_qn ?_
      rw [hp, hq]
      exact g_joined (b20, b27) (by (repeat (first | exact trivial | refine ⟨by rfl, ?_⟩)); done) (by repeat' (first | exact Cover.nil | exact Take.here | apply Cover.cons | apply Take.there)) trivial
    refine m_call (Hin := []) (Hr := ?hr24) (R := ?rr24) rfl wantedN rfl rfl rfl ?hin24 ?hc24 ?hk24
    case hin24 => repeat' (first | exact Cover.nil | exact Take.here | apply Cover.cons | apply Take.there)
    case hc24 => intro ρ' hρ hR; exact inside_ok _ _ _
    rintro _ _ ⟨rfl, rfl⟩
    refine ⟨.some (by repeat' (first | exact Cover.nil | exact Take.here | apply Cover.cons | apply Take.there)), ?_⟩
    refine m_or ?_ ?_
    · refine m_eff rfl (e_bs (xs := [.tmp 18, .tmp 19]) rfl rfl rfl (by rfl) (by rfl) rfl (by rfl)) rfl (fun _ _ => ?_)
      rintro ⟨b20, rfl, rfl⟩
      refine ⟨.some (by repeat' (first | exact Cover.nil | exact Take.here | apply Cover.cons | apply Take.there)), ?_⟩
      refine m_call (Hin := []) (Hr := ?hr25) (R := ?rr25) rfl wantedN rfl rfl rfl ?hin25 ?hc25 ?hk25
      case hin25 => repeat' (first | exact Cover.nil | exact Take.here | apply Cover.cons | apply Take.there)
      case hc25 => intro ρ' hρ hR; exact inside_ok _ _ _
      rintro _ _ ⟨rfl, rfl⟩
      refine ⟨.none (by kernel_rfl), ?_⟩
      refine m_float0 rfl (fun _ _ => p_assign rfl) rfl ?_
      refine m_eff rfl (e_bs (xs := [.tmp 23, .tmp 26]) rfl rfl rfl (by rfl) (by rfl) rfl (by rfl)) rfl (fun _ _ => ?_)
      rintro ⟨b27, rfl, rfl⟩
      refine ⟨.none (by kernel_rfl), ?_⟩
      refine m_float0 rfl (fun _ _ => p_assign rfl) rfl ?_
      refine m_nil ?_
      refine g_qn ?_
      rw [hp, hq]
      exact g_joined (b20, b27) (by (repeat (first | exact trivial | refine ⟨by rfl, ?_⟩)); done) (by repeat' (first | exact Cover.nil | exact Take.here | apply Cover.cons | apply Take.there)) trivial
    refine m_call (Hin := []) (Hr := ?hr26) (R := ?rr26) rfl wantedN rfl rfl rfl ?hin26 ?hc26 ?hk26
    case hin26 => repeat' (first | exact Cover.nil | exact Take.here | apply Cover.cons | apply Take.there)
    case hc26 => intro ρ' hρ hR; exact inside_ok _ _ _
    rintro _ _ ⟨rfl, rfl⟩
    refine ⟨.some (by repeat' (first | exact Cover.nil | exact Take.here | apply Cover.cons | apply Take.there)), ?_⟩
    refine m_or ?_ ?_
    · refine m_eff rfl (e_bs (xs := [.tmp 18, .tmp 19]) rfl rfl rfl (by rfl) (by rfl) rfl (by rfl)) rfl (fun _ _ => ?_)
      rintro ⟨b20, rfl, rfl⟩
      refine ⟨.none (by kernel_rfl), ?_⟩
      refine m_float0 rfl (fun _ _ => p_assign rfl) rfl ?_
      refine m_eff rfl (e_bs (xs := [.tmp 23, .tmp 26]) rfl rfl rfl (by rfl) (by rfl) rfl (by rfl)) rfl (fun _ _ => ?_)
      rintro ⟨b27, rfl, rfl⟩
      refine ⟨.none (by kernel_rfl), ?_⟩
      refine m_float0 rfl (fun _ _ => p_assign rfl) rfl ?_
      refine m_nil ?_
      refine g_qn ?_
      rw [hp, hq]
      exact g_joined (b20, b27) (by (repeat (first | exact trivial | refine ⟨by rfl, ?_⟩)); done) (by repeat' (first | exact Cover.nil | exact Take.here | apply Cover.cons | apply Take.there)) trivial
    refine m_eff rfl (e_bs (xs := [.tmp 23, .tmp 26]) rfl rfl rfl (by rfl) (by rfl) rfl (by rfl)) rfl (fun _ _ => ?_)
    rintro ⟨b27, rfl, rfl⟩
    refine ⟨.some (by repeat' (first | exact Cover.nil | exact Take.here | apply Cover.cons | apply Take.there)), ?_⟩
    refine m_eff rfl (e_bs (xs := [.tmp 18, .tmp 19]) rfl rfl rfl (by rfl) (by rfl) rfl (by rfl)) rfl (fun _ _ => ?_)
    rintro ⟨b20, rfl, rfl⟩
    refine ⟨.none (by kernel_rfl), ?_⟩
    refine m_float0 rfl (fun _ _ => p_assign rfl) rfl ?_
    refine m_float0 rfl (fun _ _ => p_assign rfl) rfl ?_
    refine m_nil ?_
    refine g_qn ?_
    rw [hp, hq]
    exact g_joined (b20, b27) (by (repeat (first | exact trivial | refine ⟨by rfl, ?_⟩)); done) (by repeat' (first | exact Cover.nil | exact Take.here | apply Cover.cons | apply Take.there)) trivial
  rintro ⟨b20, b27⟩ -
  dsimp only
  refine g_qt ?_
  refine g_seq ?_
  refine g_seq ?_
  refine g_region ?_
  refine g_pure (p_move rfl) rfl ?_
  refine g_call (Hin := []) (Hr := ?hr27) (R := ?rr27) rfl rfl rfl ?hin27 ?hc27 ?hk27
  case hin27 => repeat' (first | exact Cover.nil | exact Take.here | apply Cover.cons | apply Take.there)
  case hc27 => intro ρ' hρ hR; exact opnds_ok op
  rintro _ _ ⟨rfl, rfl⟩
  refine g_pure (p_eql rfl rfl) rfl ?_
  refine g_nil ?_
  refine g_qt ?_
  refine g_join (fun n : Nat => [(0, .int .i64 op), (11, .slice (some ⟨b20, 0, none⟩) n 2), (12, .slice (some ⟨b27, 0, none⟩) n 2)])
    (fun _ => [Blk b27 (.cells [.int .i64 p, .int .i64 q].toArray 3 (0, 0)), Blk b20 (.cells [.int .i64 x1, .int .i64 x2, .int .i64 y1, .int .i64 y2].toArray 25 (0, 0))]) (fun n => n = if (groupF op).2 = 1 then 1 else 2) ?_ ?_
  · refine g_ifd rfl (fun h => ?_) (fun h => ?_)
    · refine m_begin0 (.fl 0 0 (.fl 1 0 (.fl 2 0 (.fl 3 0 (.fl 4 0 (.fl 5 0 .done)))))) (by kernel_rfl) (by kernel_rfl) ?_
      refine m_float0 rfl (fun _ _ => p_move rfl) rfl ?_
      refine m_float0 rfl (fun _ _ => p_sliceh rfl rfl (by omega)) rfl ?_
      refine m_float0 rfl (fun _ _ => p_move rfl) rfl ?_
      refine m_float0 rfl (fun _ _ => p_sliceh rfl rfl (by omega)) rfl ?_
      refine m_float0 rfl (fun _ _ => p_assign rfl) rfl ?_
      refine m_float0 rfl (fun _ _ => p_assign rfl) rfl ?_
      refine m_nil ?_
      refine g_qn ?_
      exact g_joined 1 (by (repeat (first | exact trivial | refine ⟨by rfl, ?_⟩)); done) (by repeat' (first | exact Cover.nil | exact Take.here | apply Cover.cons | apply Take.there)) (by rw [if_pos (by omega)])
    · refine g_skip ?_
      refine g_qn ?_
      exact g_joined 2 (by (repeat (first | exact trivial | refine ⟨by rfl, ?_⟩)); done) (by repeat' (first | exact Cover.nil | exact Take.here | apply Cover.cons | apply Take.there)) (by rw [if_neg (by omega)])
  rintro n hn
  have hn12 : n = 1 ∨ n = 2 := by
    rw [hn]; split
    · exact .inl rfl
    · exact .inr rfl
  refine g_qt ?_
  refine g_seq ?_
  refine g_region ?_
  refine g_pure (p_move rfl) rfl ?_
  refine g_pure (p_move rfl) rfl ?_
  refine g_call (Hin := []) (Hr := ?hr28) (R := ?rr28) rfl rfl rfl ?hin28 ?hc28 ?hk28
  case hin28 => repeat' (first | exact Cover.nil | exact Take.here | apply Cover.cons | apply Take.there)
  case hc28 => intro ρ' hρ hR; exact ap_q (sapplyk_ok op (args := [(x1, x2), (y1, y2)].take n) (by simp; omega) (rsl_twoS (Take.ro (A := Blk b20 (.cells [.int .i64 x1, .int .i64 x2, .int .i64 y1, .int .i64 y2].toArray 25 (0, 0))) (by repeat' (first | exact Take.here | apply Take.there)) hR).blk hn12) (by omega))
  rintro _ _ ⟨rfl, rfl⟩
  obtain ⟨⟨⟨r1, r2⟩, e⟩, hr⟩ : ∃ r, applyS op ([(x1, x2), (y1, y2)].take n) = r := ⟨_, rfl⟩
  rw [hr]
  dsimp only
  refine g_pure (p_move rfl) rfl ?_
  refine g_pure (p_extract rfl rfl) rfl ?_
  refine g_pure (p_extract rfl rfl) rfl ?_
  refine g_eff (e_alloc (by rfl)) rfl (fun _ _ => ?_)
  rintro ⟨b13, rfl, rfl⟩
  first | refine g_eff0 (e_storeO rfl rfl (by rfl) (by rfl) (by rfl) (by repeat' (first | exact Take.here | apply Take.there)) (by rfl)) (fun _ _ => ?_) | refine g_eff0 (e_storeN rfl rfl (by rfl) (by rfl) (by rfl) (by repeat' (first | exact Take.here | apply Take.there)) (by simp)) (fun _ _ => ?_)
  rintro rfl
  refine g_pure (p_assign rfl) rfl ?_
  refine g_nil ?_
  refine g_qt ?_
  refine g_seq ?_
  refine g_seq ?_
  refine g_region ?_
  refine g_pure (p_assign rfl) rfl ?_
  refine g_nil ?_
  refine g_qt ?_
  refine g_block ?_
  refine g_loop (fun i : Nat => [(0, .int .i64 op), (11, .slice (some ⟨b20, 0, none⟩) n 2), (12, .slice (some ⟨b27, 0, none⟩) n 2), (13, .pointer (some ⟨b13, 0, none⟩)), (14, .int .i64 e), (15, .int .i64 i)])
    (fun _ => [Blk b13 (.cells [.int .i64 r1, .int .i64 r2].toArray 25 (0, 0)), Blk b27 (.cells [.int .i64 p, .int .i64 q].toArray 3 (0, 0)), Blk b20 (.cells [.int .i64 x1, .int .i64 x2, .int .i64 y1, .int .i64 y2].toArray 25 (0, 0))]) (fun i => i ≤ n ∧ (1 ≤ i → x1 ≤ p ∧ p ≤ x2) ∧ (2 ≤ i → y1 ≤ q ∧ q ≤ y2)) (fun i => n - i) 0 ⟨Nat.zero_le _, by omega, by omega⟩ (by (repeat (first | exact trivial | refine ⟨by rfl, ?_⟩)); done) (by repeat' (first | exact Cover.nil | exact Take.here | apply Cover.cons | apply Take.there)) fun i ⟨hi, i1, i2⟩ => ?_
  refine g_seq ?_
  refine g_seq ?_
  refine g_region ?_
  refine g_pure (p_move rfl) rfl ?_
  refine g_pure (p_move rfl) rfl ?_
  refine g_pure (p_len (by rfl) rfl) rfl ?_
  refine g_pure (p_lss rfl rfl) rfl ?_
  refine g_nil ?_
  refine g_qt ?_
  refine g_ifd rfl (fun h1 => ?_) (fun h1 => ?_)
  · obtain rfl | rfl : i = 0 ∨ i = 1 := by omega
    · refine g_skip ?_
      refine g_qt ?_
      refine g_seq ?_
      refine g_block ?_
      refine g_seq ?_
      refine m_begin0 (.fl 0 0 (.fl 1 0 (.fl 2 0 (.fl 3 1 (.fl 4 0 (.fl 5 0 (.fl 6 0 (.fl 7 1 (.ef 8 (.fl 9 0 .done)))))))))) (by kernel_rfl) (by kernel_rfl) ?_
      refine m_float0 rfl (fun _ _ => p_move rfl) rfl ?_
      refine m_float0 rfl (fun _ _ => p_move rfl) rfl ?_
      refine m_float0 rfl (fun _ _ => p_indexAddr rfl rfl (by omega) (by first | exact fun _ => rfl | assumption)) rfl ?_
      first | refine m_float rfl (p_loadO (by rfl) rfl (by first | (apply Has.own; (repeat' (first | exact Take.here | apply Take.there)); done) | exact Has.ro (by assumption)) (by rfl)) rfl ?_ | refine m_float rfl (p_loadN (by rfl) rfl (by first | (apply Has.own; (repeat' (first | exact Take.here | apply Take.there)); done) | exact Has.ro (by assumption)) (by first | rfl | assumption)) rfl ?_
      refine m_float0 rfl (fun _ _ => p_move rfl) rfl ?_
      refine m_float0 rfl (fun _ _ => p_move rfl) rfl ?_
      refine m_float0 rfl (fun _ _ => p_indexAddr rfl rfl (by omega) (by first | exact fun _ => rfl | assumption)) rfl ?_
      refine m_float rfl (p_load (by rfl) rfl (by first | (apply Has.own; (repeat' (first | exact Take.here | apply Take.there)); done) | exact Has.ro (by assumption)) (by first | rfl | assumption)) rfl ?_
      refine m_call (Hin := []) (Hr := ?hr29) (R := ?rr29) rfl wantedN rfl rfl rfl ?hin29 ?hc29 ?hk29
      case hin29 => repeat' (first | exact Cover.nil | exact Take.here | apply Cover.cons | apply Take.there)
      case hc29 => intro ρ' hρ hR; exact has_ok _ _ _
      rintro _ _ ⟨rfl, rfl⟩
      refine ⟨.none (by kernel_rfl), ?_⟩
      refine m_float0 rfl (fun _ _ => p_not rfl) rfl ?_
      refine m_nil ?_
      refine g_qt ?_
      refine g_ifnd rfl (fun h2 => ?_) (fun h2 => ?_)
      · refine g_seq ?_
        refine g_region ?_
        refine g_call (Hin := []) (Hr := ?hr30) (R := ?rr30) rfl rfl rfl ?hin30 ?hc30 ?hk30
        case hin30 => repeat' (first | exact Cover.nil | exact Take.here | apply Cover.cons | apply Take.there)
        case hc30 => intro ρ' hρ hR; exact awake_ok
        rintro _ _ ⟨rfl, rfl⟩
        refine g_pure (p_assign rfl) rfl ?_
        refine g_nil ?_
        refine g_qt ?_
        refine g_ret ?_
        refine g_qb_ret ?_
        refine g_qt_ret ?_
        refine g_qn_ret ?_
        refine g_qb_ret ?_
        refine g_qt_ret ?_
        exact g_post (Ho := []) (rs := [.tmp 10]) rfl (.tmp rfl .nil) rfl .nil
      · refine g_skip ?_
        refine g_qb ?_
        refine g_qt ?_
        refine g_region ?_
        refine g_pure (p_move rfl) rfl ?_
        first | refine g_pure (p_addi rfl rfl (by omega)) rfl ?_ | refine g_pure (p_add rfl rfl) rfl ?_
        refine g_pure (p_assign rfl) rfl ?_
        refine g_nil ?_
        refine g_qn ?_
        exact g_next 1 (by (repeat (first | exact trivial | refine ⟨by rfl, ?_⟩)); done) (by repeat' (first | exact Cover.nil | exact Take.here | apply Cover.cons | apply Take.there)) ⟨by omega, fun _ => h2, fun h => absurd h (by decide)⟩ (by omega)
    · refine g_skip ?_
      refine g_qt ?_
      refine g_seq ?_
      refine g_block ?_
      refine g_seq ?_
      refine m_begin0 (.fl 0 0 (.fl 1 0 (.fl 2 0 (.fl 3 1 (.fl 4 0 (.fl 5 0 (.fl 6 0 (.fl 7 1 (.ef 8 (.fl 9 0 .done)))))))))) (by kernel_rfl) (by kernel_rfl) ?_
      refine m_float0 rfl (fun _ _ => p_move rfl) rfl ?_
      refine m_float0 rfl (fun _ _ => p_move rfl) rfl ?_
      refine m_float0 rfl (fun _ _ => p_indexAddr rfl rfl (by omega) (by first | exact fun _ => rfl | assumption)) rfl ?_
      first | refine m_float rfl (p_loadO (by rfl) rfl (by first | (apply Has.own; (repeat' (first | exact Take.here | apply Take.there)); done) | exact Has.ro (by assumption)) (by rfl)) rfl ?_ | refine m_float rfl (p_loadN (by rfl) rfl (by first | (apply Has.own; (repeat' (first | exact Take.here | apply Take.there)); done) | exact Has.ro (by assumption)) (by first | rfl | assumption)) rfl ?_
      refine m_float0 rfl (fun _ _ => p_move rfl) rfl ?_
      refine m_float0 rfl (fun _ _ => p_move rfl) rfl ?_
      refine m_float0 rfl (fun _ _ => p_indexAddr rfl rfl (by omega) (by first | exact fun _ => rfl | assumption)) rfl ?_
      refine m_float rfl (p_load (by rfl) rfl (by first | (apply Has.own; (repeat' (first | exact Take.here | apply Take.there)); done) | exact Has.ro (by assumption)) (by first | rfl | assumption)) rfl ?_
      refine m_call (Hin := []) (Hr := ?hr31) (R := ?rr31) rfl wantedN rfl rfl rfl ?hin31 ?hc31 ?hk31
      case hin31 => repeat' (first | exact Cover.nil | exact Take.here | apply Cover.cons | apply Take.there)
      case hc31 => intro ρ' hρ hR; exact has_ok _ _ _
      rintro _ _ ⟨rfl, rfl⟩
      refine ⟨.none (by kernel_rfl), ?_⟩
      refine m_float0 rfl (fun _ _ => p_not rfl) rfl ?_
      refine m_nil ?_
      refine g_qt ?_
      refine g_ifnd rfl (fun h2 => ?_) (fun h2 => ?_)
      · refine g_seq ?_
        refine g_region ?_
        refine g_call (Hin := []) (Hr := ?hr32) (R := ?rr32) rfl rfl rfl ?hin32 ?hc32 ?hk32
        case hin32 => repeat' (first | exact Cover.nil | exact Take.here | apply Cover.cons | apply Take.there)
        case hc32 => intro ρ' hρ hR; exact awake_ok
        rintro _ _ ⟨rfl, rfl⟩
        refine g_pure (p_assign rfl) rfl ?_
        refine g_nil ?_
        refine g_qt ?_
        refine g_ret ?_
        refine g_qb_ret ?_
        refine g_qt_ret ?_
        refine g_qn_ret ?_
        refine g_qb_ret ?_
        refine g_qt_ret ?_
        exact g_post (Ho := []) (rs := [.tmp 10]) rfl (.tmp rfl .nil) rfl .nil
      · refine g_skip ?_
        refine g_qb ?_
        refine g_qt ?_
        refine g_region ?_
        refine g_pure (p_move rfl) rfl ?_
        first | refine g_pure (p_addi rfl rfl (by omega)) rfl ?_ | refine g_pure (p_add rfl rfl) rfl ?_
        refine g_pure (p_assign rfl) rfl ?_
        refine g_nil ?_
        refine g_qn ?_
        exact g_next 2 (by (repeat (first | exact trivial | refine ⟨by rfl, ?_⟩)); done) (by repeat' (first | exact Cover.nil | exact Take.here | apply Cover.cons | apply Take.there)) ⟨by omega, fun _ => i1 (by decide), fun _ => h2⟩ (by omega)
  · obtain rfl : i = n := by omega
    have hlaw := sound_law (op := op) (a := (x1, x2)) (b := (y1, y2)) (x := p) (y := q) hn (by rw [hasS_iff]; exact i1 (by omega)) (fun h => by rw [hasS_iff]; exact i2 (by omega))
    rw [hr] at hlaw
    refine g_exit ?_
    refine g_qt_exit ?_
    refine g_qn_exit ?_
    refine g_qb_exit ?_
    refine g_qt ?_
    refine g_seq ?_
    refine g_region ?_
    refine g_pure (p_move rfl) rfl ?_
    refine g_pure (p_move rfl) rfl ?_
    refine g_call (Hin := []) (Hr := ?hr33) (R := ?rr33) rfl rfl rfl ?hin33 ?hc33 ?hk33
    case hin33 => repeat' (first | exact Cover.nil | exact Take.here | apply Cover.cons | apply Take.there)
    case hc33 => intro ρ' hρ hR; exact applyk_ok op (args := [p, q].take i) (by simp; omega) (rsl_twoN (Take.ro (A := Blk b27 (.cells [.int .i64 p, .int .i64 q].toArray 3 (0, 0))) (by repeat' (first | exact Take.here | apply Take.there)) hR).blk hn12) (by omega)
    rintro _ _ ⟨rfl, rfl⟩
    obtain ⟨⟨v, f⟩, hv⟩ : ∃ r, applyF op ([p, q].take i) = r := ⟨_, rfl⟩
    rw [hv] at hlaw ⊢
    obtain ⟨k1, k2⟩ := hlaw
    dsimp only at k1 k2 ⊢
    refine g_pure (p_move rfl) rfl ?_
    refine g_pure (p_extract rfl rfl) rfl ?_
    refine g_pure (p_extract rfl rfl) rfl ?_
    refine g_pure (p_assign rfl) rfl ?_
    refine g_pure (p_assign rfl) rfl ?_
    refine g_nil ?_
    refine g_qt ?_
    refine g_seq ?_
    refine g_seq ?_
    refine g_region ?_
    refine g_pure (p_move rfl) rfl ?_
    refine g_pure (p_neq rfl rfl) rfl ?_
    refine g_pure (p_move rfl) rfl ?_
    refine g_splitnd rfl rfl (fun h1 => ?_) (fun h1 => ?_)
    · refine g_no rfl rfl rfl rfl ?_
      refine g_no rfl rfl rfl rfl ?_
      first | refine g_pure (p_pickt rfl rfl) rfl ?_ | refine g_pure (p_pickf rfl rfl) rfl ?_
      refine g_nil ?_
      refine g_qt ?_
      refine g_ift rfl ?_
      refine g_seq ?_
      refine g_region ?_
      refine g_pure (p_move rfl) rfl ?_
      refine g_pure (p_eql rfl rfl) rfl ?_
      refine g_pure (p_move rfl) rfl ?_
      refine g_splitd rfl rfl (fun h3 => ?_) (fun h3 => ?_)
      · refine g_no rfl rfl rfl rfl ?_
        refine g_no rfl rfl rfl rfl ?_
        refine g_no rfl rfl rfl rfl ?_
        first | refine g_pure (p_pickt rfl rfl) rfl ?_ | refine g_pure (p_pickf rfl rfl) rfl ?_
        refine g_pure (p_move rfl) rfl ?_
        refine g_yes rfl rfl ?_
        refine g_call (Hin := []) (Hr := ?hr34) (R := ?rr34) rfl rfl rfl ?hin34 ?hc34 ?hk34
        case hin34 => repeat' (first | exact Cover.nil | exact Take.here | apply Cover.cons | apply Take.there)
        case hc34 => intro ρ' hρ hR; exact awake_ok
        rintro _ _ ⟨rfl, rfl⟩
        first | refine g_pure (p_pickt rfl rfl) rfl ?_ | refine g_pure (p_pickf rfl rfl) rfl ?_
        refine g_pure (p_assign rfl) rfl ?_
        refine g_nil ?_
        refine g_qt ?_
        refine g_ret ?_
        refine g_qt_ret ?_
        first | exact g_post (Ho := []) (rs := [.tmp 10]) rfl (.tmp rfl .nil) rfl .nil | (exfalso; omega)
      · refine g_yes rfl rfl ?_
        refine g_pure (p_move rfl) rfl ?_
        refine g_yes rfl rfl ?_
        refine g_pure (p_move rfl) rfl ?_
        refine g_yes rfl rfl ?_
        refine g_pure (p_eql rfl rfl) rfl ?_
        first | refine g_pure (p_pickt rfl rfl) rfl ?_ | refine g_pure (p_pickf rfl rfl) rfl ?_
        refine g_pure (p_move rfl) rfl ?_
        refine g_splitd rfl rfl (fun h5 => ?_) (fun h5 => ?_)
        · refine g_yes rfl rfl ?_
          refine g_call (Hin := []) (Hr := ?hr35) (R := ?rr35) rfl rfl rfl ?hin35 ?hc35 ?hk35
          case hin35 => repeat' (first | exact Cover.nil | exact Take.here | apply Cover.cons | apply Take.there)
          case hc35 => intro ρ' hρ hR; exact awake_ok
          rintro _ _ ⟨rfl, rfl⟩
          first | refine g_pure (p_pickt rfl rfl) rfl ?_ | refine g_pure (p_pickf rfl rfl) rfl ?_
          refine g_pure (p_assign rfl) rfl ?_
          refine g_nil ?_
          refine g_qt ?_
          refine g_ret ?_
          refine g_qt_ret ?_
          first | exact g_post (Ho := []) (rs := [.tmp 10]) rfl (.tmp rfl .nil) rfl .nil | (exfalso; omega)
        · refine g_no rfl rfl rfl rfl ?_
          first | refine g_pure (p_pickt rfl rfl) rfl ?_ | refine g_pure (p_pickf rfl rfl) rfl ?_
          refine g_pure (p_assign rfl) rfl ?_
          refine g_nil ?_
          refine g_qt ?_
          refine g_ret ?_
          refine g_qt_ret ?_
          first | exact g_post (Ho := []) (rs := [.tmp 10]) rfl (.tmp rfl .nil) rfl .nil | (exfalso; omega)
    · refine g_yes rfl rfl ?_
      refine g_pure (p_move rfl) rfl ?_
      refine g_yes rfl rfl ?_
      refine g_pure (p_neq rfl rfl) rfl ?_
      first | refine g_pure (p_pickt rfl rfl) rfl ?_ | refine g_pure (p_pickf rfl rfl) rfl ?_
      refine g_nil ?_
      refine g_qt ?_
      refine g_ifndL rfl (fun h6 => ?_) (fun h6 => ?_)
      · refine g_seq ?_
        refine g_region ?_
        refine g_pure (p_move rfl) rfl ?_
        refine g_pure (p_eql rfl rfl) rfl ?_
        refine g_pure (p_move rfl) rfl ?_
        refine g_splitd rfl rfl (fun h7 => ?_) (fun h7 => ?_)
        · refine g_no rfl rfl rfl rfl ?_
          refine g_no rfl rfl rfl rfl ?_
          refine g_no rfl rfl rfl rfl ?_
          first | refine g_pure (p_pickt rfl rfl) rfl ?_ | refine g_pure (p_pickf rfl rfl) rfl ?_
          refine g_pure (p_move rfl) rfl ?_
          refine g_yes rfl rfl ?_
          refine g_call (Hin := []) (Hr := ?hr36) (R := ?rr36) rfl rfl rfl ?hin36 ?hc36 ?hk36
          case hin36 => repeat' (first | exact Cover.nil | exact Take.here | apply Cover.cons | apply Take.there)
          case hc36 => intro ρ' hρ hR; exact awake_ok
          rintro _ _ ⟨rfl, rfl⟩
          first | refine g_pure (p_pickt rfl rfl) rfl ?_ | refine g_pure (p_pickf rfl rfl) rfl ?_
          refine g_pure (p_assign rfl) rfl ?_
          refine g_nil ?_
          refine g_qt ?_
          refine g_ret ?_
          refine g_qt_ret ?_
          first | exact g_post (Ho := []) (rs := [.tmp 10]) rfl (.tmp rfl .nil) rfl .nil | (exfalso; omega)
        · refine g_yes rfl rfl ?_
          refine g_pure (p_move rfl) rfl ?_
          refine g_yes rfl rfl ?_
          refine g_pure (p_move rfl) rfl ?_
          refine g_yes rfl rfl ?_
          refine g_pure (p_eql rfl rfl) rfl ?_
          first | refine g_pure (p_pickt rfl rfl) rfl ?_ | refine g_pure (p_pickf rfl rfl) rfl ?_
          refine g_pure (p_move rfl) rfl ?_
          refine g_splitd rfl rfl (fun h9 => ?_) (fun h9 => ?_)
          · refine g_yes rfl rfl ?_
            refine g_call (Hin := []) (Hr := ?hr37) (R := ?rr37) rfl rfl rfl ?hin37 ?hc37 ?hk37
            case hin37 => repeat' (first | exact Cover.nil | exact Take.here | apply Cover.cons | apply Take.there)
            case hc37 => intro ρ' hρ hR; exact awake_ok
            rintro _ _ ⟨rfl, rfl⟩
            first | refine g_pure (p_pickt rfl rfl) rfl ?_ | refine g_pure (p_pickf rfl rfl) rfl ?_
            refine g_pure (p_assign rfl) rfl ?_
            refine g_nil ?_
            refine g_qt ?_
            refine g_ret ?_
            refine g_qt_ret ?_
            first | exact g_post (Ho := []) (rs := [.tmp 10]) rfl (.tmp rfl .nil) rfl .nil | (exfalso; omega)
          · refine g_no rfl rfl rfl rfl ?_
            first | refine g_pure (p_pickt rfl rfl) rfl ?_ | refine g_pure (p_pickf rfl rfl) rfl ?_
            refine g_pure (p_assign rfl) rfl ?_
            refine g_nil ?_
            refine g_qt ?_
            refine g_ret ?_
            refine g_qt_ret ?_
            first | exact g_post (Ho := []) (rs := [.tmp 10]) rfl (.tmp rfl .nil) rfl .nil | (exfalso; omega)
      · refine g_skip ?_
        refine g_qt ?_
        refine g_seq ?_
        refine g_region ?_
        first | refine g_pure (p_loadO (by rfl) rfl (by first | (apply Has.own; (repeat' (first | exact Take.here | apply Take.there)); done) | exact Has.ro (by assumption)) (by rfl)) rfl ?_ | refine g_pure (p_loadN (by rfl) rfl (by first | (apply Has.own; (repeat' (first | exact Take.here | apply Take.there)); done) | exact Has.ro (by assumption)) (by first | rfl | assumption)) rfl ?_
        refine g_pure (p_move rfl) rfl ?_
        refine g_call (Hin := []) (Hr := ?hr38) (R := ?rr38) rfl rfl rfl ?hin38 ?hc38 ?hk38
        case hin38 => repeat' (first | exact Cover.nil | exact Take.here | apply Cover.cons | apply Take.there)
        case hc38 => intro ρ' hρ hR; exact has_ok _ _ _
        rintro _ _ ⟨rfl, rfl⟩
        refine g_pure (p_move rfl) rfl ?_
        refine g_splitd rfl rfl (fun h10 => ?_) (fun h10 => ?_)
        · refine g_yes rfl rfl ?_
          refine g_call (Hin := []) (Hr := ?hr39) (R := ?rr39) rfl rfl rfl ?hin39 ?hc39 ?hk39
          case hin39 => repeat' (first | exact Cover.nil | exact Take.here | apply Cover.cons | apply Take.there)
          case hc39 => intro ρ' hρ hR; exact awake_ok
          rintro _ _ ⟨rfl, rfl⟩
          first | refine g_pure (p_pickt rfl rfl) rfl ?_ | refine g_pure (p_pickf rfl rfl) rfl ?_
          refine g_pure (p_assign rfl) rfl ?_
          refine g_nil ?_
          refine g_qt ?_
          refine g_ret ?_
          first | exact g_post (Ho := []) (rs := [.tmp 10]) rfl (.tmp rfl .nil) rfl .nil | (exfalso; omega)
        · refine g_no rfl rfl rfl rfl ?_
          first | refine g_pure (p_pickt rfl rfl) rfl ?_ | refine g_pure (p_pickf rfl rfl) rfl ?_
          refine g_pure (p_assign rfl) rfl ?_
          refine g_nil ?_
          refine g_qt ?_
          refine g_ret ?_
          first | exact g_post (Ho := []) (rs := [.tmp 10]) rfl (.tmp rfl .nil) rfl .nil | (exfalso; omega)
end Go.Proofs.Ytlcipnligbjclaa
