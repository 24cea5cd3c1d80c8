/- Chapter 4: the shortest cycle whose least vertex is given. Conditions: none. -/
import Derived.Test.YtmefecnjliadaaaN8
import Derived.Test.YtmefecnjliadaaaNe
namespace Go.Proofs.Ytmefecnjliadaaa
set_option maxRecDepth 8000
set_option linter.unusedVariables false
set_option linter.unusedSimpArgs false
set_option linter.unusedSectionVars false
open Go Go.Z Go.Z.Gr
theorem aroundF_ok {ρ : Nat → Obj → Prop} {b1 b2 b3 c : Nat} {a : Option Addr} (v left : Int) (d : List Int) (h1 : ρ b1 (.cells [.int .i64 v].toArray 3 (0, 0))) (h2 : ρ b2 (.cells [.slice a d.length c].toArray 24 (0, 0))) (h3 : ρ b3 (.cells [.int .i64 left].toArray 3 (0, 0))) (hd : RSl ρ 1 a d.length (d.map Z.encI)) (w0 : Int) (hw : 0 ≤ w0 ∧ w0 < d.length) :
    Con Try.prog ρ 45 #[.int .i64 w0, .pointer (some ⟨b1, 0, none⟩), .pointer (some ⟨b2, 0, none⟩), .pointer (some ⟨b3, 0, none⟩)] [] (fun r H => r = .bool (decide (v < w0 ∧ getI d w0 = left)) ∧ H = []) := by
  obtain ⟨bb, oo, cc, TT, zz, r1, r2, r3⟩ := rsl_at hd (by omega)
  have r4 := r3 w0.toNat (by omega)
  rw [← getI_nat (by omega), show ((w0.toNat : Nat) : Int) = w0 by omega] at r4
  refine con_intro Try.func45 Try.call45 rfl Try.ntmps45 rfl (L := [(0, _), (1, _), (2, _), (3, _)]) rfl fun w hh => ?_
  refine g_seq ?_
  refine g_region ?_
  refine g_pure (p_assign rfl) rfl ?_
  refine g_nil ?_
  refine g_qt ?_
  refine g_seq ?_
  refine m_begin0 (.fl 0 0 (.fl 1 1 (.fl 2 0 (.fl 3 0 (.fl 4 1 (.fl 5 0 (.fl 6 0 (.fl 7 1 (.fl 8 1 (.fl 9 0 (.fl 10 0 (.fl 11 0 .done)))))))))))) (by kernel_rfl) (by kernel_rfl) ?_
  refine m_float0 rfl (fun _ _ => p_move rfl) rfl ?_
  refine m_float rfl (p_load (by rfl) rfl (by first | (apply Has.own; (repeat' (first | exact Take.here | apply Take.there)); done) | exact Has.ro (by assumption)) (by first | rfl | assumption)) rfl ?_
  refine m_float0 rfl (fun _ _ => p_gtr rfl rfl) rfl ?_
  refine m_float0 rfl (fun _ _ => p_move rfl) rfl ?_
  refine m_splitd 3 rfl rfl (fun q => ?_) (fun q => ?_)
  · refine m_yes rfl rfl rfl (p_load (by rfl) rfl (by first | (apply Has.own; (repeat' (first | exact Take.here | apply Take.there)); done) | exact Has.ro (by assumption)) (by first | rfl | assumption)) rfl ?_
    refine m_yes0 rfl rfl rfl (fun _ _ => p_move rfl) rfl ?_
    refine m_yes0 rfl rfl rfl (fun _ _ => p_indexAddr rfl rfl (by omega) (fun _ => r1)) rfl ?_
    refine m_yes rfl rfl rfl (p_load (by rfl) rfl (Has.ro r2) r4) rfl ?_
    refine m_yes rfl rfl rfl (p_load (by rfl) rfl (by first | (apply Has.own; (repeat' (first | exact Take.here | apply Take.there)); done) | exact Has.ro (by assumption)) (by first | rfl | assumption)) rfl ?_
    refine m_yes0 rfl rfl rfl (fun _ _ => p_eql rfl rfl) rfl ?_
    first | refine m_float0 rfl (fun _ _ => p_pickt rfl rfl) rfl ?_ | refine m_float0 rfl (fun _ _ => p_pickf rfl rfl) rfl ?_
    refine m_float0 rfl (fun _ _ => p_assign rfl) rfl ?_
    refine m_nil ?_
    refine g_qt ?_
    refine g_ret ?_
    exact g_post (rs := [.tmp 5]) rfl (.tmp rfl .nil) ⟨show Value.bool (decide (getI d w0 = left)) = _ by (congr 1; exact decide_eq_decide.2 ⟨fun h => ⟨q, h⟩, fun h => h.2⟩), rfl⟩ (by repeat' (first | exact Cover.nil | exact Take.here | apply Cover.cons | apply Take.there))
  · refine m_no rfl rfl rfl rfl rfl ?_
    refine m_no0 rfl rfl rfl rfl rfl ?_
    refine m_no0 rfl rfl rfl rfl rfl ?_
    refine m_no rfl rfl rfl rfl rfl ?_
    refine m_no rfl rfl rfl rfl rfl ?_
    refine m_no0 rfl rfl rfl rfl rfl ?_
    first | refine m_float0 rfl (fun _ _ => p_pickt rfl rfl) rfl ?_ | refine m_float0 rfl (fun _ _ => p_pickf rfl rfl) rfl ?_
    refine m_float0 rfl (fun _ _ => p_assign rfl) rfl ?_
    refine m_nil ?_
    refine g_qt ?_
    refine g_ret ?_
    exact g_post (rs := [.tmp 5]) rfl (.tmp rfl .nil) ⟨show Value.bool false = _ by (congr 1; exact (decide_eq_false fun h => q h.1).symm), rfl⟩ (by repeat' (first | exact Cover.nil | exact Take.here | apply Cover.cons | apply Take.there))
theorem around_ok {ρ : Nat → Obj → Prop} (n : Nat) (hn : n ≤ 4096) (E : Ed) (ho : EdOk n E) (hlE : E.length ≤ 1000000) (na ba : Option Addr) (nc bc : Nat) (f : Nat → List Int) (hN : NbR ρ na n fun v => nbP E v) (hB : NbR ρ ba n f) (hf : ∀ v u, v < n → (u ∈ f v ↔ (u, (v : Int)) ∈ E)) (hfl : ∀ v, v < n → (f v).length ≤ 1000000) (v : Nat) (hv : v < n) (most : Int) (hmo : 1 ≤ most ∧ most ≤ 1000000) :
    Con Try.prog ρ 30 #[.slice na n nc, .slice ba n bc, .int .i64 v, .int .i64 most] [] (fun r H => ∃ a' c', r = .slice a' (aroundM (nbP E) (distP E n v) v most).length c' ∧ H = [OwnSl 3 1 a' (aroundM (nbP E) (distP E n v) v most).length c' ((aroundM (nbP E) (distP E n v) v most).map Z.encI)] ∧ a'.isNone = decide (aroundM (nbP E) (distP E n v) v most = [])) := by
  obtain ⟨bb, oo, cc, TT, zz, ai, ci, r1, r2, r3, r4⟩ := hN.at hv
  have hll := nbP_len E v
  refine con_intro Try.func30 Try.call30 rfl Try.ntmps30 rfl (L := [(0, _), (1, _), (2, _), (3, _)]) rfl fun w hh => ?_
  refine g_seq ?_
  refine g_region ?_
  refine g_eff (e_box rfl (by rfl)) rfl (fun _ _ => ?_)
  rintro ⟨b6, rfl, rfl⟩
  refine g_pure (p_assign rfl) rfl ?_
  refine g_nil ?_
  refine g_qt ?_
  refine g_seq ?_
  refine g_region ?_
  refine g_pure (p_move rfl) rfl ?_
  refine g_pure (p_load (by rfl) rfl (by first | (apply Has.own; (repeat' (first | exact Take.here | apply Take.there)); done) | exact Has.ro (by assumption)) (by first | rfl | assumption)) rfl ?_
  refine g_call (Hin := []) (Hr := ?hr1) (R := ?rr1) rfl rfl rfl ?hin1 ?hc1 ?hk1
  case hin1 => repeat' (first | exact Cover.nil | exact Take.here | apply Cover.cons | apply Take.there)
  case hc1 => intro ρ' hρ hR; exact distances_ok n hn E ho ba bc f (hB.mono hρ) hf hfl v hv
  rintro _ _ ⟨da, dc, d, rfl, rfl, hD, hL⟩
  have hdl := hD.1
  have hdd : d = distP E n v := dist_eq hD fun x hx => by have := hL x hx; omega
  rw [← hdd]
  refine g_freeze (A := OwnSl _ _ da _ dc _) (by repeat' (first | exact Take.here | apply Take.there)) ?_
  intro ρ1 hρ1 hRo
  have hDR : RSl ρ1 1 da d.length (d.map Z.encI) := by have := RSl.of_own hRo; rw [hdl]; exact this
  clear hRo
  have hgl : ∀ u : Int, 0 ≤ u ∧ u < n → getI d u ≤ n := fun u hu => by have := getI_le hL (v := u) ⟨hu.1, by omega⟩; omega
  refine g_eff (e_alloc (by rfl)) rfl (fun _ _ => ?_)
  rintro ⟨b9, rfl, rfl⟩
  first | refine g_eff0 (e_storeO rfl rfl (by rfl) (by rfl) (by rfl) (by repeat' (first | exact Take.here | apply Take.there)) (by rfl)) (fun _ _ => ?_) | refine g_eff0 (e_store1 (by rfl) rfl rfl rfl (by repeat' (first | exact Take.here | apply Take.there)) (by first | decide | (simp <;> omega) | omega)) (fun _ _ => ?_)
  rintro rfl
  refine g_nil ?_
  refine g_qt ?_
  refine g_seq ?_
  refine g_region ?_
  refine g_pure (p_move rfl) rfl ?_
  refine g_pure (p_assign rfl) rfl ?_
  refine g_nil ?_
  refine g_qt ?_
  refine g_seq ?_
  refine g_seq ?_
  refine g_region ?_
  refine g_pure (p_move rfl) rfl ?_
  refine g_pure (p_load (by rfl) rfl (by first | (apply Has.own; (repeat' (first | exact Take.here | apply Take.there)); done) | exact Has.ro (by assumption)) (by first | rfl | assumption)) rfl ?_
  refine g_pure (p_indexAddr rfl rfl (by omega) (fun _ => r1)) rfl ?_
  refine g_pure (p_load (by rfl) rfl (Has.ro (hρ1 _ _ r2)) r3) rfl ?_
  refine g_pure (p_len (by rfl) rfl) rfl ?_
  refine g_pure (p_move rfl) rfl ?_
  refine g_nil ?_
  refine g_qt ?_
  refine g_block ?_
  refine g_loop (fun s : Nat × Int => [(0, .slice na n nc), (3, .int .i64 most), (6, .pointer (some ⟨b6, 0, none⟩)), (9, .pointer (some ⟨b9, 0, none⟩)), (10, .int .i64 s.2), (24, .slice ai (nbP E v).length ci), (25, .int .i64 (nbP E v).length), (26, .int .i64 s.1)])
    (fun _ => [Blk b9 (.cells [.slice da n dc].toArray 24 (0, 0)), Blk b6 (.cells [.int .i64 v].toArray 3 (0, 0))]) (fun s => s.1 ≤ (nbP E v).length ∧ s.2 = bestP d v ((nbP E v).take s.1) most ∧ 0 ≤ s.2 ∧ s.2 ≤ most) (fun s => (nbP E v).length - s.1) (0, most) ⟨Nat.zero_le _, rfl, by dsimp only; omega, by dsimp only; omega⟩ (by (repeat (first | exact trivial | refine ⟨by rfl, ?_⟩)); done) (by repeat' (first | exact Cover.nil | exact Take.here | apply Cover.cons | apply Take.there)) ?_
  rintro ⟨j, best⟩ ⟨hj, hb, hb0, hbm⟩
  dsimp only at hj hb hb0 hbm ⊢
  refine g_seq ?_
  refine g_region ?_
  refine g_pure (p_lss rfl rfl) rfl ?_
  refine g_nil ?_
  refine g_qt ?_
  refine g_seq ?_
  refine g_ifd rfl (fun q => ?_) (fun q => ?_)
  · have hj' : j < (nbP E v).length := by omega
    obtain ⟨bl, ol, cl, Tl, zl, l1, l2, l3⟩ := rsl_at r4 (by omega)
    have l3 := l3 j hj'
    obtain ⟨i1, i2⟩ := nb_in ho hj'
    have hst : bestP d v ((nbP E v).take (j + 1)) most = stepB d v best (nbP E v)[j] := by
      rw [hb]; unfold bestP; rw [take_snoc hj', List.foldl_append]; rfl
    generalize hw : (nbP E v)[j] = u at *
    obtain ⟨bx, ox, cx, Tx, zx, x1, x2, x3⟩ := rsl_at hDR (by omega)
    have x4 := x3 u.toNat (by omega)
    rw [← getI_nat (by omega), show ((u.toNat : Nat) : Int) = u by omega] at x4
    have hg := hgl u ⟨i1, i2⟩
    refine g_skip ?_
    refine g_qt ?_
    refine g_seq ?_
    refine g_block ?_
    refine g_seq ?_
    refine g_region ?_
    refine g_pure (p_indexAddr rfl rfl (by omega) (fun _ => l1)) rfl ?_
    refine g_pure (p_load (by rfl) rfl (Has.ro (hρ1 _ _ l2)) l3) rfl ?_
    refine g_pure (p_assign rfl) rfl ?_
    refine g_nil ?_
    refine g_qt ?_
    refine g_seq ?_
    refine g_region ?_
    refine g_pure (p_move rfl) rfl ?_
    refine g_pure (p_load (by rfl) rfl (by first | (apply Has.own; (repeat' (first | exact Take.here | apply Take.there)); done) | exact Has.ro (by assumption)) (by first | rfl | assumption)) rfl ?_
    refine g_pure (p_geq rfl rfl) rfl ?_
    refine g_pure (p_move rfl) rfl ?_
    refine g_splitd rfl rfl (fun h1 => ?_) (fun h1 => ?_)
    · refine g_yes rfl rfl ?_
      refine g_pure (p_load (by rfl) rfl (by first | (apply Has.own; (repeat' (first | exact Take.here | apply Take.there)); done) | exact Has.ro (by assumption)) (by first | rfl | assumption)) rfl ?_
      refine g_yes rfl rfl ?_
      refine g_pure (p_move rfl) rfl ?_
      refine g_yes rfl rfl ?_
      refine g_pure (p_indexAddr rfl rfl (by omega) (fun _ => x1)) rfl ?_
      refine g_yes rfl rfl ?_
      refine g_pure (p_load (by rfl) rfl (Has.ro x2) x4) rfl ?_
      refine g_yes rfl rfl ?_
      refine g_pure (p_geq rfl rfl) rfl ?_
      first | refine g_pure (p_pickt rfl rfl) rfl ?_ | refine g_pure (p_pickf rfl rfl) rfl ?_
      refine g_nil ?_
      refine g_qt ?_
      refine g_ifd rfl (fun h2 => ?_) (fun h2 => ?_)
      · refine g_region ?_
        refine g_pure (p_move rfl) rfl ?_
        refine g_pure (p_load (by rfl) rfl (by first | (apply Has.own; (repeat' (first | exact Take.here | apply Take.there)); done) | exact Has.ro (by assumption)) (by first | rfl | assumption)) rfl ?_
        refine g_pure (p_move rfl) rfl ?_
        refine g_pure (p_indexAddr rfl rfl (by omega) (fun _ => x1)) rfl ?_
        refine g_pure (p_load (by rfl) rfl (Has.ro x2) x4) rfl ?_
        first | refine g_pure (p_addi rfl rfl (by omega)) rfl ?_ | refine g_pure (p_add rfl rfl) rfl ?_
        refine g_pure (p_min rfl rfl) rfl ?_
        refine g_pure (p_assign rfl) rfl ?_
        refine g_nil ?_
        refine g_qb ?_
        refine g_qt ?_
        refine g_region ?_
        first | refine g_pure (p_addi rfl rfl (by omega)) rfl ?_ | refine g_pure (p_add rfl rfl) rfl ?_
        refine g_pure (p_move rfl) rfl ?_
        refine g_nil ?_
        refine g_qn ?_
        exact g_next (j + 1, min best (getI d u + 1)) (by (repeat (first | exact trivial | refine ⟨by rfl, ?_⟩)); done) (by repeat' (first | exact Cover.nil | exact Take.here | apply Cover.cons | apply Take.there)) ⟨by dsimp only; omega, by dsimp only; rw [hst]; unfold stepB; rw [if_pos ⟨h1, h2⟩], by dsimp only; omega, by dsimp only; omega⟩ (by dsimp only; omega)
      · refine g_skip ?_
        refine g_qb ?_
        refine g_qt ?_
        refine g_region ?_
        first | refine g_pure (p_addi rfl rfl (by omega)) rfl ?_ | refine g_pure (p_add rfl rfl) rfl ?_
        refine g_pure (p_move rfl) rfl ?_
        refine g_nil ?_
        refine g_qn ?_
        exact g_next (j + 1, best) (by (repeat (first | exact trivial | refine ⟨by rfl, ?_⟩)); done) (by repeat' (first | exact Cover.nil | exact Take.here | apply Cover.cons | apply Take.there)) ⟨by dsimp only; omega, by dsimp only; rw [hst]; unfold stepB; rw [if_neg (fun h => h2 h.2)], hb0, hbm⟩ (by dsimp only; omega)
    · refine g_no rfl rfl rfl rfl ?_
      refine g_no rfl rfl rfl rfl ?_
      refine g_no rfl rfl rfl rfl ?_
      refine g_no rfl rfl rfl rfl ?_
      refine g_no rfl rfl rfl rfl ?_
      first | refine g_pure (p_pickt rfl rfl) rfl ?_ | refine g_pure (p_pickf rfl rfl) rfl ?_
      refine g_nil ?_
      refine g_qt ?_
      refine g_iff rfl ?_
      refine g_skip ?_
      refine g_qb ?_
      refine g_qt ?_
      refine g_region ?_
      first | refine g_pure (p_addi rfl rfl (by omega)) rfl ?_ | refine g_pure (p_add rfl rfl) rfl ?_
      refine g_pure (p_move rfl) rfl ?_
      refine g_nil ?_
      refine g_qn ?_
      exact g_next (j + 1, best) (by (repeat (first | exact trivial | refine ⟨by rfl, ?_⟩)); done) (by repeat' (first | exact Cover.nil | exact Take.here | apply Cover.cons | apply Take.there)) ⟨by dsimp only; omega, by dsimp only; rw [hst]; unfold stepB; rw [if_neg (fun h => h1 h.1)], hb0, hbm⟩ (by dsimp only; omega)
  · have hje : j = (nbP E v).length := by omega
    rw [hje, List.take_length] at hb
    refine g_exit ?_
    refine g_qt_exit ?_
    refine g_qn_exit ?_
    refine g_qb_exit ?_
    refine g_qt ?_
    refine g_seq ?_
    refine g_seq ?_
    refine g_region ?_
    refine g_pure (p_move rfl) rfl ?_
    refine g_pure (p_move rfl) rfl ?_
    refine g_pure (p_eql rfl rfl) rfl ?_
    refine g_nil ?_
    refine g_qt ?_
    refine g_ifd rfl (fun p => ?_) (fun p => ?_)
    · have hM : aroundM (nbP E) d v most = [] := by unfold aroundM; rw [← hb, if_pos p]
      rw [hM]
      refine g_seq ?_
      refine g_region ?_
      refine g_pure (p_assign rfl) rfl ?_
      refine g_nil ?_
      refine g_qt ?_
      refine g_ret ?_
      refine g_qt_ret ?_
      refine g_ownnil (e := 3) (size := 1) ?_
      refine g_thaw hρ1 ?_
      exact g_post (rs := [.tmp 8]) rfl (.tmp rfl .nil) ⟨none, 0, rfl, rfl, rfl⟩ (by repeat' (first | exact Cover.nil | exact Take.here | apply Cover.cons | apply Take.there))
    · have hlt : bestP d v (nbP E v) most < most := by omega
      obtain ⟨w1, -, -, w3, w4⟩ := bestP_lt hlt
      obtain ⟨k0, hk0⟩ : ∃ k0 : Nat, best = ((k0 + 1 : Nat) : Int) := ⟨(best - 1).toNat, by omega⟩
      subst hk0
      have hG0 : Gr.Good (nbP E) d v k0 v := good_first hv hD hlt hb.symm
      have hM : aroundM (nbP E) d v most = (v : Int) :: pathP (nbP E) d v k0 v := by unfold aroundM; rw [← hb, if_neg p]; congr 2; omega
      rw [hM]
      refine g_skip ?_
      refine g_qt ?_
      refine g_seq ?_
      refine g_region ?_
      refine g_pure (p_load (by rfl) rfl (by first | (apply Has.own; (repeat' (first | exact Take.here | apply Take.there)); done) | exact Has.ro (by assumption)) (by first | rfl | assumption)) rfl ?_
      refine g_eff (e_bs (xs := [.tmp 51]) rfl rfl rfl (by rfl) (by rfl) rfl (by rfl)) rfl (fun _ _ => ?_)
      rintro ⟨b52, rfl, rfl⟩
      refine g_pure (p_assign rfl) rfl ?_
      refine g_nil ?_
      refine g_qt ?_
      refine g_seq ?_
      refine g_seq ?_
      refine g_region ?_
      refine g_pure (p_load (by rfl) rfl (by first | (apply Has.own; (repeat' (first | exact Take.here | apply Take.there)); done) | exact Has.ro (by assumption)) (by first | rfl | assumption)) rfl ?_
      refine g_pure (p_assign rfl) rfl ?_
      refine g_nil ?_
      refine g_qt ?_
      refine g_block ?_
      refine g_weak (B := OwnSl 3 1 (some ⟨b52, 0, none⟩) 1 1 ([(v : Int)].map Z.encI)) .here (fun hh hb => own_of_blk (k := 1) (cap := 1) (size := 1) (by decide) (by decide) rfl hh hb) ?_
      refine g_loop (fun s : Nat × List Int × Int × Option Addr × Nat => [(0, .slice na n nc), (6, .pointer (some ⟨b6, 0, none⟩)), (9, .pointer (some ⟨b9, 0, none⟩)), (10, .int .i64 ((k0 + 1 : Nat) : Int)), (13, .slice s.2.2.2.1 s.2.1.length s.2.2.2.2), (14, .int .i64 s.2.2.1)])
        (fun s => [Blk b9 (.cells [.slice da n dc].toArray 24 (0, 0)), Blk b6 (.cells [.int .i64 v].toArray 3 (0, 0)), OwnSl 3 1 s.2.2.2.1 s.2.1.length s.2.2.2.2 (s.2.1.map Z.encI)]) (fun s => s.2.1.length + s.1 = k0 + 1 ∧ s.2.1 ++ pathP (nbP E) d v s.1 s.2.2.1 = (v : Int) :: pathP (nbP E) d v k0 v ∧ Gr.Good (nbP E) d v s.1 s.2.2.1 ∧ (0 ≤ s.2.2.1 ∧ s.2.2.1 < n) ∧ s.2.2.2.1.isNone = false) (fun s => s.1) (k0, [(v : Int)], (v : Int), some ⟨b52, 0, none⟩, 1) ⟨by dsimp only; simp; omega, rfl, hG0, ⟨by dsimp only; omega, by dsimp only; omega⟩, rfl⟩ (by (repeat (first | exact trivial | refine ⟨by rfl, ?_⟩)); done) (by repeat' (first | exact Cover.nil | exact Take.here | apply Cover.cons | apply Take.there)) ?_
      rintro ⟨k, cyc, at1, ca, cc⟩ ⟨hck, hcp, hG, hat, hca⟩
      dsimp only at hck hcp hG hat hca ⊢
      obtain ⟨an, rfl⟩ : ∃ an : Nat, at1 = an := ⟨at1.toNat, by omega⟩
      refine g_seq ?_
      refine g_seq ?_
      refine g_region ?_
      refine g_pure (p_move rfl) rfl ?_
      refine g_pure (p_len (by rfl) rfl) rfl ?_
      refine g_pure (p_move rfl) rfl ?_
      refine g_pure (p_lss rfl rfl) rfl ?_
      refine g_nil ?_
      refine g_qt ?_
      refine g_ifd rfl (fun y => ?_) (fun y => ?_)
      · obtain ⟨k1, rfl⟩ : ∃ k1, k = k1 + 1 := ⟨k - 1, by omega⟩
        obtain ⟨i, hfi⟩ := good_find hG
        obtain ⟨hi, hpf, hw1, hw2⟩ := path_find hfi
        obtain ⟨bb2, oo2, cc2, TT2, zz2, ai2, ci2, s1, s2, s3, s4⟩ := hN.at (v := an) (by omega)
        obtain ⟨bl, ol, cl, Tl, zl, l1, l2, l3⟩ := rsl_at s4 (by omega)
        have l3 := l3 i hi
        have hin := nb_in ho hi
        have hll2 := nbP_len E an
        have hG2 : Gr.Good (nbP E) d v k1 (nbP E an)[i] := good_step ho hD (fun _ _ => nbP_mem) hin hw2
        rw [hpf] at hcp
        have hleft : ((k0 + 1 : Nat) : Int) - cyc.length = ((k1 + 1 : Nat) : Int) := by omega
        refine g_skip ?_
        refine g_qt ?_
        refine g_block ?_
        refine g_seq ?_
        refine g_region ?_
        refine g_pure (p_move rfl) rfl ?_
        refine g_pure (p_move rfl) rfl ?_
        refine g_pure (p_len (by rfl) rfl) rfl ?_
        first | refine g_pure (p_subi rfl rfl (by omega)) rfl ?_ | refine g_pure (p_sub rfl rfl) rfl ?_
        rw [hleft]
        refine g_eff (e_alloc (by rfl)) rfl (fun _ _ => ?_)
        rintro ⟨b15, rfl, rfl⟩
        first | refine g_eff0 (e_storeO rfl rfl (by rfl) (by rfl) (by rfl) (by repeat' (first | exact Take.here | apply Take.there)) (by rfl)) (fun _ _ => ?_) | refine g_eff0 (e_store1 (by rfl) rfl rfl rfl (by repeat' (first | exact Take.here | apply Take.there)) (by first | decide | (simp <;> omega) | omega)) (fun _ _ => ?_)
        rintro rfl
        refine g_nil ?_
        refine g_qt ?_
        refine g_seq ?_
        refine g_region ?_
        refine g_pure (p_move rfl) rfl ?_
        refine g_pure (p_move rfl) rfl ?_
        refine g_pure (p_indexAddr rfl rfl (by omega) (fun _ => s1)) rfl ?_
        refine g_pure (p_load (by rfl) rfl (Has.ro (hρ1 _ _ s2)) s3) rfl ?_
        refine g_pure (p_makeFunc rfl rfl) rfl ?_
        refine g_call (Hin := []) (Hr := ?hr2) (R := ?rr2) rfl rfl rfl ?hin2 ?hc2 ?hk2
        case hin2 => repeat' (first | exact Cover.nil | exact Take.here | apply Cover.cons | apply Take.there)
        case hc2 => intro ρ' hρ hR; exact idxI_ok ai2 ci2 (nbP E an) (s4.mono (fun b o h => hρ b o (hρ1 b o h))) (by omega) 45 #[.pointer (some ⟨b6, 0, none⟩), .pointer (some ⟨b9, 0, none⟩), .pointer (some ⟨b15, 0, none⟩)] (fun w => decide (v < w ∧ getI d w = ((k1 + 1 : Nat) : Int))) (fun l hl ρ2 h2 => aroundF_ok v _ d (h2 _ _ (Take.ro (A := Blk b6 _) (by repeat' (first | exact Take.here | apply Take.there)) hR).blk) (by rw [hdl]; exact (h2 _ _ (Take.ro (A := Blk b9 _) (by repeat' (first | exact Take.here | apply Take.there)) hR).blk)) (h2 _ _ (Take.ro (A := Blk b15 _) (by repeat' (first | exact Take.here | apply Take.there)) hR).blk) (hDR.mono (fun b o h => h2 b o (hρ b o h))) l (by rw [hdl]; exact (ho _ (nbP_mem.1 hl)).2))
        rintro _ _ ⟨rfl, rfl⟩
        rw [hfi]
        dsimp only
        refine g_pure (p_assign rfl) rfl ?_
        refine g_nil ?_
        refine g_qt ?_
        refine g_seq ?_
        refine g_region ?_
        refine g_pure (p_move rfl) rfl ?_
        refine g_pure (p_move rfl) rfl ?_
        refine g_pure (p_indexAddr rfl rfl (by omega) (fun _ => s1)) rfl ?_
        refine g_pure (p_load (by rfl) rfl (Has.ro (hρ1 _ _ s2)) s3) rfl ?_
        refine g_pure (p_move rfl) rfl ?_
        refine g_pure (p_indexAddr rfl rfl (by omega) (fun _ => l1)) rfl ?_
        refine g_pure (p_load (by rfl) rfl (Has.ro (hρ1 _ _ l2)) l3) rfl ?_
        refine g_pure (p_assign rfl) rfl ?_
        refine g_nil ?_
        refine g_qt ?_
        refine g_region ?_
        refine g_pure (p_move rfl) rfl ?_
        refine g_pure (p_move rfl) rfl ?_
        refine g_eff (e_bs (xs := [.tmp 76]) rfl rfl rfl (by rfl) (by rfl) rfl (by rfl)) rfl (fun _ _ => ?_)
        rintro ⟨b77, rfl, rfl⟩
        refine g_eff (e_appendO (by rfl) (by rfl) rfl rfl (by first | (apply Has.own; (repeat' (first | exact Take.here | apply Take.there)); done) | exact Has.ro (by assumption)) (by rfl) (by rfl) (by repeat' (first | exact Take.here | apply Take.there)) (by omega) (by first | omega | (dsimp only; omega) | (simp <;> omega)) (by omega)) rfl (fun _ _ => ?_)
        rintro ⟨a78, c78, rfl, rfl⟩
        refine g_pure (p_assign rfl) rfl ?_
        refine g_nil ?_
        refine g_qb ?_
        refine g_qn ?_
        rw [show cyc.map Z.encI ++ [Value.int IntKind.i64 (nbP E an)[i]] = (cyc ++ [(nbP E an)[i]]).map Z.encI by rw [List.map_append]; rfl, show cyc.length + 1 = (cyc ++ [(nbP E an)[i]]).length by rw [List.length_append]; rfl]
        refine g_ownsome .here (by simp) fun hsome => ?_
        exact g_next (k1, cyc ++ [(nbP E an)[i]], (nbP E an)[i], a78, c78) (by (repeat (first | exact trivial | refine ⟨by rfl, ?_⟩)); done) (by repeat' (first | exact Cover.nil | exact Take.here | apply Cover.cons | apply Take.there)) ⟨by dsimp only; rw [List.length_append, List.length_singleton]; omega, by dsimp only; rw [List.append_assoc]; exact hcp, hG2, hin, hsome⟩ (by dsimp only; omega)
      · have hk : k = 0 := by omega
        subst hk
        have hce : cyc = (v : Int) :: pathP (nbP E) d v k0 v := by rw [← hcp]; unfold pathP; rw [List.append_nil]
        rw [← hce]
        refine g_exit ?_
        refine g_qt_exit ?_
        refine g_qn_exit ?_
        refine g_qb_exit ?_
        refine g_qt ?_
        refine g_seq ?_
        refine g_region ?_
        refine g_pure (p_move rfl) rfl ?_
        refine g_pure (p_assign rfl) rfl ?_
        refine g_nil ?_
        refine g_qt ?_
        refine g_ret ?_
        refine g_thaw hρ1 ?_
        exact g_post (rs := [.tmp 8]) rfl (.tmp rfl .nil) ⟨ca, cc, rfl, rfl, by rw [hca, hce]; rfl⟩ (by repeat' (first | exact Cover.nil | exact Take.here | apply Cover.cons | apply Take.there))
end Go.Proofs.Ytmefecnjliadaaa
