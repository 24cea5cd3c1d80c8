/- Own texts, put together: Pn. Conditions: as told at each. -/
import Derived.Test.YtcnfcoojmbjdlaaGreatDoorMAsP0
import Derived.Test.YtcnfcoojmbjdlaaGreatDoorMAsP1
/- Chapter 26: the document's registers that an instruction reads and writes; the statement on them. Conditions: what the library's variables hold (LibA). -/
namespace Go.Proofs.YtcnfcoojmbjdlaaGreatDoor
set_option maxRecDepth 8000
set_option linter.unusedVariables false
set_option linter.unusedSimpArgs false
set_option linter.unusedSectionVars false
open Go Go.Z Go.Z.Asm Go.RowKit

theorem rrun_ok {ρ : Nat → Obj → Prop} (a : Int) (n : Nat) (ha : -4611686018427387904 ≤ a ∧ a ≤ 4611686018427387904) (hn : n ≤ 17592186044416) : Con Tryz.prog ρ 40 #[.int .i64 a, .int .i64 n] []
    (fun v H => ∃ b c, v = .slice b (runP a n).length c ∧ H = [OwnSl 3 1 b (runP a n).length c ((runP a n).map encI)]) := by
  obtain ⟨ha1, ha2⟩ := ha
  refine con_intro Tryz.func40 Tryz.call40 rfl Tryz.ntmps40 rfl (L := [(0, _), (1, _)]) rfl fun w hh => ?_
  refine g_seq ?_
  refine g_region ?_
  refine g_pure (p_assign rfl) rfl ?_
  refine g_nil ?_
  refine g_qt ?_
  refine g_seq ?_
  refine g_region ?_
  refine g_pure (p_assign rfl) rfl ?_
  refine g_nil ?_
  refine g_qt ?_
  refine g_seq ?_
  refine g_seq ?_
  refine g_region ?_
  refine g_pure (p_assign rfl) rfl ?_
  refine g_nil ?_
  refine g_qt ?_
  refine g_block ?_
  refine g_ownnil (e := 3) (size := 1) ?_
  refine g_loop (fun q : Nat × Option Addr × Nat => [(0, .int .i64 a), (1, .int .i64 n), (5, .slice q.2.1 (runP a q.1).length q.2.2), (6, .int .i64 q.1)])
    (fun q => [OwnSl 3 1 q.2.1 (runP a q.1).length q.2.2 ((runP a q.1).map encI)]) (fun q => q.1 ≤ n) (fun q => n - q.1) (0, none, 0) (Nat.zero_le _) (by (repeat (first | exact trivial | refine ⟨by rfl, ?_⟩)); done) (by repeat' (first | exact Cover.nil | exact Take.here | apply Cover.cons | apply Take.there)) ?_
  rintro ⟨k, oa, oc⟩ hk1
  dsimp only at hk1 ⊢
  have hrl := runP_len a k
  refine g_seq ?_
  refine g_seq ?_
  refine g_region ?_
  refine g_pure (p_move rfl) rfl ?_
  refine g_pure (p_move rfl) rfl ?_
  refine g_pure (p_lss rfl rfl) rfl ?_
  refine g_nil ?_
  refine g_qt ?_
  refine g_ifd rfl (fun q => ?_) (fun q => ?_)
  · have hst := runP_step a k
    refine g_skip ?_
    refine g_qt ?_
    refine g_seq ?_
    refine g_block ?_
    refine g_region ?_
    refine g_pure (p_move rfl) rfl ?_
    refine g_pure (p_move rfl) rfl ?_
    refine g_pure (p_move rfl) rfl ?_
    first | refine g_pure (p_addi rfl rfl (by omega)) rfl ?_ | refine g_pure (p_add rfl rfl) rfl ?_
    refine g_eff (e_bs (xs := [.tmp 15]) rfl rfl rfl (by rfl) (by rfl) rfl (by rfl)) rfl (fun _ _ => ?_)
    rintro ⟨b16, rfl, rfl⟩
    refine g_eff (e_appendO (by rfl) (by rfl) rfl rfl (by first | (apply Has.own; (repeat' (first | exact Take.here | apply Take.there)); done) | exact Has.ro (by assumption)) (by rfl) (by rfl) (by repeat' (first | exact Take.here | apply Take.there)) (by omega) (by first | omega | (dsimp only; omega) | (simp <;> omega)) (by omega)) rfl (fun _ _ => ?_)
    rintro ⟨a17, c17, rfl, rfl⟩
    refine g_pure (p_assign rfl) rfl ?_
    refine g_nil ?_
    refine g_qb ?_
    refine g_qt ?_
    refine g_region ?_
    refine g_pure (p_move rfl) rfl ?_
    first | refine g_pure (p_addi rfl rfl (by omega)) rfl ?_ | refine g_pure (p_add rfl rfl) rfl ?_
    refine g_pure (p_assign rfl) rfl ?_
    refine g_nil ?_
    refine g_qn ?_
    rw [show (runP a k).map encI ++ [Value.int IntKind.i64 (a + k)] = (runP a (k + 1)).map encI by rw [hst, List.map_append]; rfl, show (runP a k).length + 1 = (runP a (k + 1)).length by rw [hst, List.length_append]; rfl]
    exact g_next (k + 1, a17, c17) (by (repeat (first | exact trivial | refine ⟨by rfl, ?_⟩)); done) (by repeat' (first | exact Cover.nil | exact Take.here | apply Cover.cons | apply Take.there)) (by dsimp only; omega) (by dsimp only; omega)
  · have hke : k = n := by omega
    subst hke
    refine g_exit ?_
    refine g_qt_exit ?_
    refine g_qn_exit ?_
    refine g_qb_exit ?_
    refine g_qt ?_
    refine g_seq ?_
    refine g_region ?_
    refine g_pure (p_move rfl) rfl ?_
    refine g_pure (p_assign rfl) rfl ?_
    refine g_nil ?_
    refine g_qt ?_
    refine g_ret ?_
    exact g_post (rs := [.tmp 4]) rfl (.tmp rfl .nil) ⟨oa, oc, rfl, rfl⟩ (by repeat' (first | exact Cover.nil | exact Take.here | apply Cover.cons | apply Take.there))

theorem called_row {ρ : Nat → Obj → Prop} {ea ra : Option Addr} {im : Im} (h : ImI ρ ea ra im) (z : Int) {y : Rt} (hy : calledP im.2 z = y) :
    ∃ (b off : Nat) (cs : List Value) (T : TypeId) (fz : Nat × Nat) (ja : Option Addr) (jc : Nat) (pa : Option Addr) (pc : Nat), (0 ≤ z ∧ z < im.2.length → ra = some ⟨b, off, none⟩ ∧ ρ b (.cells cs.toArray T fz) ∧ cs[off + z.toNat * 6 + 1]? = some (.slice ja y.2.1.length jc) ∧ cs[off + z.toNat * 6 + 2]? = some (.slice pa y.2.2.1.length pc)) ∧ (¬ (0 ≤ z ∧ z < im.2.length) → y = emptyRt) := by
  by_cases hA : 0 ≤ z ∧ z < im.2.length
  · have hl : z.toNat < im.2.length := by omega
    obtain ⟨b, off, cs, T, fz, r1, r2, r3⟩ := h.rs (by omega)
    obtain ⟨row, w1, w2, w3⟩ := r3 z.toNat hl
    have he : im.2[z.toNat] = y := by
      rw [← hy]; unfold calledP
      rw [if_neg (by omega), List.getD_eq_getElem?_getD, List.getElem?_eq_getElem hl]; rfl
    rw [he] at w1
    obtain ⟨ja, jc, pa, pc, qa, qc, sa, sc, e0, _⟩ := w1
    subst e0
    exact ⟨b, off, cs, T, fz, ja, jc, pa, pc, fun _ => ⟨r1, r2, w3 1 _ rfl, w3 2 _ rfl⟩, fun h => absurd hA h⟩
  · refine ⟨0, 0, [], 0, (0, 0), none, 0, none, 0, fun h => absurd h hA, fun _ => ?_⟩
    rw [← hy]
    unfold calledP
    split
    · rfl
    · rw [List.getD_eq_getElem?_getD, List.getElem?_eq_none (by omega)]; rfl

theorem ruses_ok {ρ : Nat → Obj → Prop} {ea ra : Option Addr} {ec rc : Nat} {im : Im} (h : ImI ρ ea ra im) (i : Ins) (hi : bigI i.2.2.2.1) :
    Con Tryz.prog ρ 18 #[.agg #[.slice ea im.1.length ec, .slice ra im.2.length rc], .agg (encIns i).toArray] []
    (fun v H => ∃ a c, v = .slice a (usesP im.2 i).length c ∧ H = [OwnSl 3 1 a (usesP im.2 i).length c ((usesP im.2 i).map encI)]) := by
  have hrl := h.rl
  have hcok := calledP_len h.ok i.2.1
  have hcil := hcok.il
  obtain ⟨y, hy⟩ : ∃ y, calledP im.2 i.2.1 = y := ⟨_, rfl⟩
  obtain ⟨b, off, cs, T, fz, ja, jc, pa, pc, hrow, hempty⟩ := called_row h i.2.1 hy
  have hR : usesP im.2 i = if i.1 = 2 ∨ i.1 = 4 ∨ i.1 = 5 then [i.2.2.1] else if i.1 = 6 then (if i.2.2.1 = i.2.2.2.1 then [i.2.2.1] else [min i.2.2.1 i.2.2.2.1, max i.2.2.1 i.2.2.2.1]) else if i.1 = 8 then [i.2.1] else if i.1 = 9 then runP i.2.2.2.1 y.2.1.length else [] := by unfold usesP; rw [hy]
  rw [hy] at hcil
  generalize usesP im.2 i = R at hR ⊢
  refine con_intro Tryz.func18 Tryz.call18 rfl Tryz.ntmps18 rfl (L := [(0, _), (1, _)]) rfl fun w hh => ?_
  refine g_seq ?_
  refine g_region ?_
  refine g_eff (e_box rfl (by rfl)) rfl (fun _ _ => ?_)
  rintro ⟨b2, rfl, rfl⟩
  refine g_eff (e_box rfl (by rfl)) rfl (fun _ _ => ?_)
  rintro ⟨b3, rfl, rfl⟩
  refine g_pure (p_assign rfl) rfl ?_
  refine g_nil ?_
  refine g_qt ?_
  refine g_seq ?_
  refine g_seq ?_
  refine g_region ?_
  refine g_pure (p_fieldAddr rfl) rfl ?_
  refine g_pure (p_load (by rfl) rfl (by first | (apply Has.own; (repeat' (first | exact Take.here | apply Take.there)); done) | exact Has.ro (by assumption)) (by first | rfl | assumption)) rfl ?_
  refine g_nil ?_
  refine g_qt ?_
  refine g_block ?_
  refine g_seq ?_
  refine g_seq ?_
  refine g_region ?_
  refine g_pure (p_eql rfl rfl) rfl ?_
  refine g_pure (p_assign rfl) rfl ?_
  refine g_nil ?_
  refine g_qt ?_
  refine g_ifdL rfl (fun h1 => ?_) (fun h1 => ?_)
  · refine g_skip ?_
    refine g_qt ?_
    refine g_ift rfl ?_
    refine g_seq ?_
    refine g_region ?_
    refine g_pure (p_fieldAddr rfl) rfl ?_
    refine g_pure (p_load (by rfl) rfl (by first | (apply Has.own; (repeat' (first | exact Take.here | apply Take.there)); done) | exact Has.ro (by assumption)) (by first | rfl | assumption)) rfl ?_
    refine g_eff (e_bs (xs := [.tmp 12]) rfl rfl rfl (by rfl) (by rfl) rfl (by rfl)) rfl (fun _ _ => ?_)
    rintro ⟨b13, rfl, rfl⟩
    refine g_pure (p_assign rfl) rfl ?_
    refine g_nil ?_
    refine g_qt ?_
    refine g_ret ?_
    refine g_qb_ret ?_
    refine g_qt_ret ?_
    first | (obtain rfl : R = [i.2.2.1] := hR.trans (if_pos (by omega)); refine g_fold (e := 3) (size := 1) (g := b13) (k := 1) (cap := 1) (cur := [.int .i64 i.2.2.1]) (xs := ([i.2.2.1] : List Int).map encI) (by repeat' (first | exact Take.here | apply Take.there)) (by decide) (by decide) rfl rfl ?_; exact g_post (rs := [.tmp 4]) rfl (.tmp rfl .nil) ⟨some ⟨b13, 0, none⟩, 1, rfl, rfl⟩ (by repeat' (first | exact Cover.nil | exact Take.here | apply Cover.cons | apply Take.there))) | (obtain rfl : R = [i.2.2.1] := hR.trans ((if_neg (by omega)).trans ((if_pos (by omega)).trans (if_pos (by omega)))); refine g_fold (e := 3) (size := 1) (g := b23) (k := 1) (cap := 1) (cur := [.int .i64 i.2.2.1]) (xs := ([i.2.2.1] : List Int).map encI) (by repeat' (first | exact Take.here | apply Take.there)) (by decide) (by decide) rfl rfl ?_; exact g_post (rs := [.tmp 4]) rfl (.tmp rfl .nil) ⟨some ⟨b23, 0, none⟩, 1, rfl, rfl⟩ (by repeat' (first | exact Cover.nil | exact Take.here | apply Cover.cons | apply Take.there))) | (obtain rfl : R = [min i.2.2.1 i.2.2.2.1, max i.2.2.1 i.2.2.2.1] := hR.trans ((if_neg (by omega)).trans ((if_pos (by omega)).trans (if_neg (by omega)))); refine g_fold (e := 3) (size := 1) (g := b34) (k := 2) (cap := 2) (cur := [.int .i64 (min i.2.2.1 i.2.2.2.1), .int .i64 (max i.2.2.1 i.2.2.2.1)]) (xs := ([min i.2.2.1 i.2.2.2.1, max i.2.2.1 i.2.2.2.1] : List Int).map encI) (by repeat' (first | exact Take.here | apply Take.there)) (by decide) (by decide) rfl rfl ?_; exact g_post (rs := [.tmp 4]) rfl (.tmp rfl .nil) ⟨some ⟨b34, 0, none⟩, 2, rfl, rfl⟩ (by repeat' (first | exact Cover.nil | exact Take.here | apply Cover.cons | apply Take.there))) | (obtain rfl : R = [i.2.1] := hR.trans ((if_neg (by omega)).trans ((if_neg (by omega)).trans (if_pos (by omega)))); refine g_fold (e := 3) (size := 1) (g := b39) (k := 1) (cap := 1) (cur := [.int .i64 i.2.1]) (xs := ([i.2.1] : List Int).map encI) (by repeat' (first | exact Take.here | apply Take.there)) (by decide) (by decide) rfl rfl ?_; exact g_post (rs := [.tmp 4]) rfl (.tmp rfl .nil) ⟨some ⟨b39, 0, none⟩, 1, rfl, rfl⟩ (by repeat' (first | exact Cover.nil | exact Take.here | apply Cover.cons | apply Take.there))) | (obtain rfl : R = runP i.2.2.2.1 y.2.1.length := hR.trans ((if_neg (by omega)).trans ((if_neg (by omega)).trans ((if_neg (by omega)).trans (if_pos (by omega))))); exact g_post (rs := [.tmp 4]) rfl (.tmp rfl .nil) ⟨b63, c63, rfl, rfl⟩ (by repeat' (first | exact Cover.nil | exact Take.here | apply Cover.cons | apply Take.there))) | ((have h90 : i.1 = 9 := by omega); (have h91 : ¬ (0 ≤ i.2.1 ∧ i.2.1 < im.2.length) := by omega); obtain rfl : R = [] := hR.trans ((if_neg (by omega)).trans ((if_neg (by omega)).trans ((if_neg (by omega)).trans ((if_pos (by omega)).trans (by rw [hempty (by omega)]; rfl))))); refine g_ownnil (e := 3) (size := 1) ?_; exact g_post (rs := [.tmp 4]) rfl (.tmp rfl .nil) ⟨none, 0, rfl, rfl⟩ (by repeat' (first | exact Cover.nil | exact Take.here | apply Cover.cons | apply Take.there))) | (obtain rfl : R = [] := hR.trans ((if_neg (by omega)).trans ((if_neg (by omega)).trans ((if_neg (by omega)).trans (if_neg (by omega))))); refine g_ownnil (e := 3) (size := 1) ?_; exact g_post (rs := [.tmp 4]) rfl (.tmp rfl .nil) ⟨none, 0, rfl, rfl⟩ (by repeat' (first | exact Cover.nil | exact Take.here | apply Cover.cons | apply Take.there)))
  · refine g_seq ?_
    refine g_region ?_
    refine g_pure (p_eql rfl rfl) rfl ?_
    refine g_pure (p_assign rfl) rfl ?_
    refine g_nil ?_
    refine g_qt ?_
    refine g_ifdL rfl (fun h3 => ?_) (fun h3 => ?_)
    · refine g_skip ?_
      refine g_qt ?_
      refine g_ift rfl ?_
      refine g_seq ?_
      refine g_region ?_
      refine g_pure (p_fieldAddr rfl) rfl ?_
      refine g_pure (p_load (by rfl) rfl (by first | (apply Has.own; (repeat' (first | exact Take.here | apply Take.there)); done) | exact Has.ro (by assumption)) (by first | rfl | assumption)) rfl ?_
      refine g_eff (e_bs (xs := [.tmp 12]) rfl rfl rfl (by rfl) (by rfl) rfl (by rfl)) rfl (fun _ _ => ?_)
      rintro ⟨b13, rfl, rfl⟩
      refine g_pure (p_assign rfl) rfl ?_
      refine g_nil ?_
      refine g_qt ?_
      refine g_ret ?_
      refine g_qb_ret ?_
      refine g_qt_ret ?_
      first | (obtain rfl : R = [i.2.2.1] := hR.trans (if_pos (by omega)); refine g_fold (e := 3) (size := 1) (g := b13) (k := 1) (cap := 1) (cur := [.int .i64 i.2.2.1]) (xs := ([i.2.2.1] : List Int).map encI) (by repeat' (first | exact Take.here | apply Take.there)) (by decide) (by decide) rfl rfl ?_; exact g_post (rs := [.tmp 4]) rfl (.tmp rfl .nil) ⟨some ⟨b13, 0, none⟩, 1, rfl, rfl⟩ (by repeat' (first | exact Cover.nil | exact Take.here | apply Cover.cons | apply Take.there))) | (obtain rfl : R = [i.2.2.1] := hR.trans ((if_neg (by omega)).trans ((if_pos (by omega)).trans (if_pos (by omega)))); refine g_fold (e := 3) (size := 1) (g := b23) (k := 1) (cap := 1) (cur := [.int .i64 i.2.2.1]) (xs := ([i.2.2.1] : List Int).map encI) (by repeat' (first | exact Take.here | apply Take.there)) (by decide) (by decide) rfl rfl ?_; exact g_post (rs := [.tmp 4]) rfl (.tmp rfl .nil) ⟨some ⟨b23, 0, none⟩, 1, rfl, rfl⟩ (by repeat' (first | exact Cover.nil | exact Take.here | apply Cover.cons | apply Take.there))) | (obtain rfl : R = [min i.2.2.1 i.2.2.2.1, max i.2.2.1 i.2.2.2.1] := hR.trans ((if_neg (by omega)).trans ((if_pos (by omega)).trans (if_neg (by omega)))); refine g_fold (e := 3) (size := 1) (g := b34) (k := 2) (cap := 2) (cur := [.int .i64 (min i.2.2.1 i.2.2.2.1), .int .i64 (max i.2.2.1 i.2.2.2.1)]) (xs := ([min i.2.2.1 i.2.2.2.1, max i.2.2.1 i.2.2.2.1] : List Int).map encI) (by repeat' (first | exact Take.here | apply Take.there)) (by decide) (by decide) rfl rfl ?_; exact g_post (rs := [.tmp 4]) rfl (.tmp rfl .nil) ⟨some ⟨b34, 0, none⟩, 2, rfl, rfl⟩ (by repeat' (first | exact Cover.nil | exact Take.here | apply Cover.cons | apply Take.there))) | (obtain rfl : R = [i.2.1] := hR.trans ((if_neg (by omega)).trans ((if_neg (by omega)).trans (if_pos (by omega)))); refine g_fold (e := 3) (size := 1) (g := b39) (k := 1) (cap := 1) (cur := [.int .i64 i.2.1]) (xs := ([i.2.1] : List Int).map encI) (by repeat' (first | exact Take.here | apply Take.there)) (by decide) (by decide) rfl rfl ?_; exact g_post (rs := [.tmp 4]) rfl (.tmp rfl .nil) ⟨some ⟨b39, 0, none⟩, 1, rfl, rfl⟩ (by repeat' (first | exact Cover.nil | exact Take.here | apply Cover.cons | apply Take.there))) | (obtain rfl : R = runP i.2.2.2.1 y.2.1.length := hR.trans ((if_neg (by omega)).trans ((if_neg (by omega)).trans ((if_neg (by omega)).trans (if_pos (by omega))))); exact g_post (rs := [.tmp 4]) rfl (.tmp rfl .nil) ⟨b63, c63, rfl, rfl⟩ (by repeat' (first | exact Cover.nil | exact Take.here | apply Cover.cons | apply Take.there))) | ((have h90 : i.1 = 9 := by omega); (have h91 : ¬ (0 ≤ i.2.1 ∧ i.2.1 < im.2.length) := by omega); obtain rfl : R = [] := hR.trans ((if_neg (by omega)).trans ((if_neg (by omega)).trans ((if_neg (by omega)).trans ((if_pos (by omega)).trans (by rw [hempty (by omega)]; rfl))))); refine g_ownnil (e := 3) (size := 1) ?_; exact g_post (rs := [.tmp 4]) rfl (.tmp rfl .nil) ⟨none, 0, rfl, rfl⟩ (by repeat' (first | exact Cover.nil | exact Take.here | apply Cover.cons | apply Take.there))) | (obtain rfl : R = [] := hR.trans ((if_neg (by omega)).trans ((if_neg (by omega)).trans ((if_neg (by omega)).trans (if_neg (by omega))))); refine g_ownnil (e := 3) (size := 1) ?_; exact g_post (rs := [.tmp 4]) rfl (.tmp rfl .nil) ⟨none, 0, rfl, rfl⟩ (by repeat' (first | exact Cover.nil | exact Take.here | apply Cover.cons | apply Take.there)))
    · refine g_region ?_
      refine g_pure (p_eql rfl rfl) rfl ?_
      refine g_pure (p_assign rfl) rfl ?_
      refine g_nil ?_
      refine g_qt ?_
      refine g_ifdL rfl (fun h5 => ?_) (fun h5 => ?_)
      · refine g_seq ?_
        refine g_region ?_
        refine g_pure (p_fieldAddr rfl) rfl ?_
        refine g_pure (p_load (by rfl) rfl (by first | (apply Has.own; (repeat' (first | exact Take.here | apply Take.there)); done) | exact Has.ro (by assumption)) (by first | rfl | assumption)) rfl ?_
        refine g_eff (e_bs (xs := [.tmp 12]) rfl rfl rfl (by rfl) (by rfl) rfl (by rfl)) rfl (fun _ _ => ?_)
        rintro ⟨b13, rfl, rfl⟩
        refine g_pure (p_assign rfl) rfl ?_
        refine g_nil ?_
        refine g_qt ?_
        refine g_ret ?_
        refine g_qb_ret ?_
        refine g_qt_ret ?_
        first | (obtain rfl : R = [i.2.2.1] := hR.trans (if_pos (by omega)); refine g_fold (e := 3) (size := 1) (g := b13) (k := 1) (cap := 1) (cur := [.int .i64 i.2.2.1]) (xs := ([i.2.2.1] : List Int).map encI) (by repeat' (first | exact Take.here | apply Take.there)) (by decide) (by decide) rfl rfl ?_; exact g_post (rs := [.tmp 4]) rfl (.tmp rfl .nil) ⟨some ⟨b13, 0, none⟩, 1, rfl, rfl⟩ (by repeat' (first | exact Cover.nil | exact Take.here | apply Cover.cons | apply Take.there))) | (obtain rfl : R = [i.2.2.1] := hR.trans ((if_neg (by omega)).trans ((if_pos (by omega)).trans (if_pos (by omega)))); refine g_fold (e := 3) (size := 1) (g := b23) (k := 1) (cap := 1) (cur := [.int .i64 i.2.2.1]) (xs := ([i.2.2.1] : List Int).map encI) (by repeat' (first | exact Take.here | apply Take.there)) (by decide) (by decide) rfl rfl ?_; exact g_post (rs := [.tmp 4]) rfl (.tmp rfl .nil) ⟨some ⟨b23, 0, none⟩, 1, rfl, rfl⟩ (by repeat' (first | exact Cover.nil | exact Take.here | apply Cover.cons | apply Take.there))) | (obtain rfl : R = [min i.2.2.1 i.2.2.2.1, max i.2.2.1 i.2.2.2.1] := hR.trans ((if_neg (by omega)).trans ((if_pos (by omega)).trans (if_neg (by omega)))); refine g_fold (e := 3) (size := 1) (g := b34) (k := 2) (cap := 2) (cur := [.int .i64 (min i.2.2.1 i.2.2.2.1), .int .i64 (max i.2.2.1 i.2.2.2.1)]) (xs := ([min i.2.2.1 i.2.2.2.1, max i.2.2.1 i.2.2.2.1] : List Int).map encI) (by repeat' (first | exact Take.here | apply Take.there)) (by decide) (by decide) rfl rfl ?_; exact g_post (rs := [.tmp 4]) rfl (.tmp rfl .nil) ⟨some ⟨b34, 0, none⟩, 2, rfl, rfl⟩ (by repeat' (first | exact Cover.nil | exact Take.here | apply Cover.cons | apply Take.there))) | (obtain rfl : R = [i.2.1] := hR.trans ((if_neg (by omega)).trans ((if_neg (by omega)).trans (if_pos (by omega)))); refine g_fold (e := 3) (size := 1) (g := b39) (k := 1) (cap := 1) (cur := [.int .i64 i.2.1]) (xs := ([i.2.1] : List Int).map encI) (by repeat' (first | exact Take.here | apply Take.there)) (by decide) (by decide) rfl rfl ?_; exact g_post (rs := [.tmp 4]) rfl (.tmp rfl .nil) ⟨some ⟨b39, 0, none⟩, 1, rfl, rfl⟩ (by repeat' (first | exact Cover.nil | exact Take.here | apply Cover.cons | apply Take.there))) | (obtain rfl : R = runP i.2.2.2.1 y.2.1.length := hR.trans ((if_neg (by omega)).trans ((if_neg (by omega)).trans ((if_neg (by omega)).trans (if_pos (by omega))))); exact g_post (rs := [.tmp 4]) rfl (.tmp rfl .nil) ⟨b63, c63, rfl, rfl⟩ (by repeat' (first | exact Cover.nil | exact Take.here | apply Cover.cons | apply Take.there))) | ((have h90 : i.1 = 9 := by omega); (have h91 : ¬ (0 ≤ i.2.1 ∧ i.2.1 < im.2.length) := by omega); obtain rfl : R = [] := hR.trans ((if_neg (by omega)).trans ((if_neg (by omega)).trans ((if_neg (by omega)).trans ((if_pos (by omega)).trans (by rw [hempty (by omega)]; rfl))))); refine g_ownnil (e := 3) (size := 1) ?_; exact g_post (rs := [.tmp 4]) rfl (.tmp rfl .nil) ⟨none, 0, rfl, rfl⟩ (by repeat' (first | exact Cover.nil | exact Take.here | apply Cover.cons | apply Take.there))) | (obtain rfl : R = [] := hR.trans ((if_neg (by omega)).trans ((if_neg (by omega)).trans ((if_neg (by omega)).trans (if_neg (by omega))))); refine g_ownnil (e := 3) (size := 1) ?_; exact g_post (rs := [.tmp 4]) rfl (.tmp rfl .nil) ⟨none, 0, rfl, rfl⟩ (by repeat' (first | exact Cover.nil | exact Take.here | apply Cover.cons | apply Take.there)))
      · refine g_seq ?_
        refine g_region ?_
        refine g_pure (p_eql rfl rfl) rfl ?_
        refine g_pure (p_assign rfl) rfl ?_
        refine g_nil ?_
        refine g_qt ?_
        refine g_ifdL rfl (fun h6 => ?_) (fun h6 => ?_)
        · refine g_seq ?_
          refine g_seq ?_
          refine g_region ?_
          refine g_pure (p_fieldAddr rfl) rfl ?_
          refine g_pure (p_load (by rfl) rfl (by first | (apply Has.own; (repeat' (first | exact Take.here | apply Take.there)); done) | exact Has.ro (by assumption)) (by first | rfl | assumption)) rfl ?_
          refine g_pure (p_fieldAddr rfl) rfl ?_
          refine g_pure (p_load (by rfl) rfl (by first | (apply Has.own; (repeat' (first | exact Take.here | apply Take.there)); done) | exact Has.ro (by assumption)) (by first | rfl | assumption)) rfl ?_
          refine g_pure (p_eql rfl rfl) rfl ?_
          refine g_nil ?_
          refine g_qt ?_
          refine g_ifdL rfl (fun h7 => ?_) (fun h7 => ?_)
          · refine g_seq ?_
            refine g_region ?_
            refine g_pure (p_fieldAddr rfl) rfl ?_
            refine g_pure (p_load (by rfl) rfl (by first | (apply Has.own; (repeat' (first | exact Take.here | apply Take.there)); done) | exact Has.ro (by assumption)) (by first | rfl | assumption)) rfl ?_
            refine g_eff (e_bs (xs := [.tmp 22]) rfl rfl rfl (by rfl) (by rfl) rfl (by rfl)) rfl (fun _ _ => ?_)
            rintro ⟨b23, rfl, rfl⟩
            refine g_pure (p_assign rfl) rfl ?_
            refine g_nil ?_
            refine g_qt ?_
            refine g_ret ?_
            refine g_qt_ret ?_
            refine g_qb_ret ?_
            refine g_qt_ret ?_
            first | (obtain rfl : R = [i.2.2.1] := hR.trans (if_pos (by omega)); refine g_fold (e := 3) (size := 1) (g := b13) (k := 1) (cap := 1) (cur := [.int .i64 i.2.2.1]) (xs := ([i.2.2.1] : List Int).map encI) (by repeat' (first | exact Take.here | apply Take.there)) (by decide) (by decide) rfl rfl ?_; exact g_post (rs := [.tmp 4]) rfl (.tmp rfl .nil) ⟨some ⟨b13, 0, none⟩, 1, rfl, rfl⟩ (by repeat' (first | exact Cover.nil | exact Take.here | apply Cover.cons | apply Take.there))) | (obtain rfl : R = [i.2.2.1] := hR.trans ((if_neg (by omega)).trans ((if_pos (by omega)).trans (if_pos (by omega)))); refine g_fold (e := 3) (size := 1) (g := b23) (k := 1) (cap := 1) (cur := [.int .i64 i.2.2.1]) (xs := ([i.2.2.1] : List Int).map encI) (by repeat' (first | exact Take.here | apply Take.there)) (by decide) (by decide) rfl rfl ?_; exact g_post (rs := [.tmp 4]) rfl (.tmp rfl .nil) ⟨some ⟨b23, 0, none⟩, 1, rfl, rfl⟩ (by repeat' (first | exact Cover.nil | exact Take.here | apply Cover.cons | apply Take.there))) | (obtain rfl : R = [min i.2.2.1 i.2.2.2.1, max i.2.2.1 i.2.2.2.1] := hR.trans ((if_neg (by omega)).trans ((if_pos (by omega)).trans (if_neg (by omega)))); refine g_fold (e := 3) (size := 1) (g := b34) (k := 2) (cap := 2) (cur := [.int .i64 (min i.2.2.1 i.2.2.2.1), .int .i64 (max i.2.2.1 i.2.2.2.1)]) (xs := ([min i.2.2.1 i.2.2.2.1, max i.2.2.1 i.2.2.2.1] : List Int).map encI) (by repeat' (first | exact Take.here | apply Take.there)) (by decide) (by decide) rfl rfl ?_; exact g_post (rs := [.tmp 4]) rfl (.tmp rfl .nil) ⟨some ⟨b34, 0, none⟩, 2, rfl, rfl⟩ (by repeat' (first | exact Cover.nil | exact Take.here | apply Cover.cons | apply Take.there))) | (obtain rfl : R = [i.2.1] := hR.trans ((if_neg (by omega)).trans ((if_neg (by omega)).trans (if_pos (by omega)))); refine g_fold (e := 3) (size := 1) (g := b39) (k := 1) (cap := 1) (cur := [.int .i64 i.2.1]) (xs := ([i.2.1] : List Int).map encI) (by repeat' (first | exact Take.here | apply Take.there)) (by decide) (by decide) rfl rfl ?_; exact g_post (rs := [.tmp 4]) rfl (.tmp rfl .nil) ⟨some ⟨b39, 0, none⟩, 1, rfl, rfl⟩ (by repeat' (first | exact Cover.nil | exact Take.here | apply Cover.cons | apply Take.there))) | (obtain rfl : R = runP i.2.2.2.1 y.2.1.length := hR.trans ((if_neg (by omega)).trans ((if_neg (by omega)).trans ((if_neg (by omega)).trans (if_pos (by omega))))); exact g_post (rs := [.tmp 4]) rfl (.tmp rfl .nil) ⟨b63, c63, rfl, rfl⟩ (by repeat' (first | exact Cover.nil | exact Take.here | apply Cover.cons | apply Take.there))) | ((have h90 : i.1 = 9 := by omega); (have h91 : ¬ (0 ≤ i.2.1 ∧ i.2.1 < im.2.length) := by omega); obtain rfl : R = [] := hR.trans ((if_neg (by omega)).trans ((if_neg (by omega)).trans ((if_neg (by omega)).trans ((if_pos (by omega)).trans (by rw [hempty (by omega)]; rfl))))); refine g_ownnil (e := 3) (size := 1) ?_; exact g_post (rs := [.tmp 4]) rfl (.tmp rfl .nil) ⟨none, 0, rfl, rfl⟩ (by repeat' (first | exact Cover.nil | exact Take.here | apply Cover.cons | apply Take.there))) | (obtain rfl : R = [] := hR.trans ((if_neg (by omega)).trans ((if_neg (by omega)).trans ((if_neg (by omega)).trans (if_neg (by omega))))); refine g_ownnil (e := 3) (size := 1) ?_; exact g_post (rs := [.tmp 4]) rfl (.tmp rfl .nil) ⟨none, 0, rfl, rfl⟩ (by repeat' (first | exact Cover.nil | exact Take.here | apply Cover.cons | apply Take.there)))
          · refine g_skip ?_
            refine g_qt ?_
            refine g_seq ?_
            refine g_region ?_
            refine g_pure (p_fieldAddr rfl) rfl ?_
            refine g_pure (p_load (by rfl) rfl (by first | (apply Has.own; (repeat' (first | exact Take.here | apply Take.there)); done) | exact Has.ro (by assumption)) (by first | rfl | assumption)) rfl ?_
            refine g_pure (p_fieldAddr rfl) rfl ?_
            refine g_pure (p_load (by rfl) rfl (by first | (apply Has.own; (repeat' (first | exact Take.here | apply Take.there)); done) | exact Has.ro (by assumption)) (by first | rfl | assumption)) rfl ?_
            refine g_pure (p_min rfl rfl) rfl ?_
            refine g_pure (p_fieldAddr rfl) rfl ?_
            refine g_pure (p_load (by rfl) rfl (by first | (apply Has.own; (repeat' (first | exact Take.here | apply Take.there)); done) | exact Has.ro (by assumption)) (by first | rfl | assumption)) rfl ?_
            refine g_pure (p_fieldAddr rfl) rfl ?_
            refine g_pure (p_load (by rfl) rfl (by first | (apply Has.own; (repeat' (first | exact Take.here | apply Take.there)); done) | exact Has.ro (by assumption)) (by first | rfl | assumption)) rfl ?_
            refine g_pure (p_max rfl rfl) rfl ?_
            refine g_eff (e_bs (xs := [.tmp 28, .tmp 33]) rfl rfl rfl (by rfl) (by rfl) rfl (by rfl)) rfl (fun _ _ => ?_)
            rintro ⟨b34, rfl, rfl⟩
            refine g_pure (p_assign rfl) rfl ?_
            refine g_nil ?_
            refine g_qt ?_
            refine g_ret ?_
            refine g_qb_ret ?_
            refine g_qt_ret ?_
            first | (obtain rfl : R = [i.2.2.1] := hR.trans (if_pos (by omega)); refine g_fold (e := 3) (size := 1) (g := b13) (k := 1) (cap := 1) (cur := [.int .i64 i.2.2.1]) (xs := ([i.2.2.1] : List Int).map encI) (by repeat' (first | exact Take.here | apply Take.there)) (by decide) (by decide) rfl rfl ?_; exact g_post (rs := [.tmp 4]) rfl (.tmp rfl .nil) ⟨some ⟨b13, 0, none⟩, 1, rfl, rfl⟩ (by repeat' (first | exact Cover.nil | exact Take.here | apply Cover.cons | apply Take.there))) | (obtain rfl : R = [i.2.2.1] := hR.trans ((if_neg (by omega)).trans ((if_pos (by omega)).trans (if_pos (by omega)))); refine g_fold (e := 3) (size := 1) (g := b23) (k := 1) (cap := 1) (cur := [.int .i64 i.2.2.1]) (xs := ([i.2.2.1] : List Int).map encI) (by repeat' (first | exact Take.here | apply Take.there)) (by decide) (by decide) rfl rfl ?_; exact g_post (rs := [.tmp 4]) rfl (.tmp rfl .nil) ⟨some ⟨b23, 0, none⟩, 1, rfl, rfl⟩ (by repeat' (first | exact Cover.nil | exact Take.here | apply Cover.cons | apply Take.there))) | (obtain rfl : R = [min i.2.2.1 i.2.2.2.1, max i.2.2.1 i.2.2.2.1] := hR.trans ((if_neg (by omega)).trans ((if_pos (by omega)).trans (if_neg (by omega)))); refine g_fold (e := 3) (size := 1) (g := b34) (k := 2) (cap := 2) (cur := [.int .i64 (min i.2.2.1 i.2.2.2.1), .int .i64 (max i.2.2.1 i.2.2.2.1)]) (xs := ([min i.2.2.1 i.2.2.2.1, max i.2.2.1 i.2.2.2.1] : List Int).map encI) (by repeat' (first | exact Take.here | apply Take.there)) (by decide) (by decide) rfl rfl ?_; exact g_post (rs := [.tmp 4]) rfl (.tmp rfl .nil) ⟨some ⟨b34, 0, none⟩, 2, rfl, rfl⟩ (by repeat' (first | exact Cover.nil | exact Take.here | apply Cover.cons | apply Take.there))) | (obtain rfl : R = [i.2.1] := hR.trans ((if_neg (by omega)).trans ((if_neg (by omega)).trans (if_pos (by omega)))); refine g_fold (e := 3) (size := 1) (g := b39) (k := 1) (cap := 1) (cur := [.int .i64 i.2.1]) (xs := ([i.2.1] : List Int).map encI) (by repeat' (first | exact Take.here | apply Take.there)) (by decide) (by decide) rfl rfl ?_; exact g_post (rs := [.tmp 4]) rfl (.tmp rfl .nil) ⟨some ⟨b39, 0, none⟩, 1, rfl, rfl⟩ (by repeat' (first | exact Cover.nil | exact Take.here | apply Cover.cons | apply Take.there))) | (obtain rfl : R = runP i.2.2.2.1 y.2.1.length := hR.trans ((if_neg (by omega)).trans ((if_neg (by omega)).trans ((if_neg (by omega)).trans (if_pos (by omega))))); exact g_post (rs := [.tmp 4]) rfl (.tmp rfl .nil) ⟨b63, c63, rfl, rfl⟩ (by repeat' (first | exact Cover.nil | exact Take.here | apply Cover.cons | apply Take.there))) | ((have h90 : i.1 = 9 := by omega); (have h91 : ¬ (0 ≤ i.2.1 ∧ i.2.1 < im.2.length) := by omega); obtain rfl : R = [] := hR.trans ((if_neg (by omega)).trans ((if_neg (by omega)).trans ((if_neg (by omega)).trans ((if_pos (by omega)).trans (by rw [hempty (by omega)]; rfl))))); refine g_ownnil (e := 3) (size := 1) ?_; exact g_post (rs := [.tmp 4]) rfl (.tmp rfl .nil) ⟨none, 0, rfl, rfl⟩ (by repeat' (first | exact Cover.nil | exact Take.here | apply Cover.cons | apply Take.there))) | (obtain rfl : R = [] := hR.trans ((if_neg (by omega)).trans ((if_neg (by omega)).trans ((if_neg (by omega)).trans (if_neg (by omega))))); refine g_ownnil (e := 3) (size := 1) ?_; exact g_post (rs := [.tmp 4]) rfl (.tmp rfl .nil) ⟨none, 0, rfl, rfl⟩ (by repeat' (first | exact Cover.nil | exact Take.here | apply Cover.cons | apply Take.there)))
        · refine g_seq ?_
          refine g_region ?_
          refine g_pure (p_eql rfl rfl) rfl ?_
          refine g_pure (p_assign rfl) rfl ?_
          refine g_nil ?_
          refine g_qt ?_
          refine g_ifdL rfl (fun h8 => ?_) (fun h8 => ?_)
          · refine g_seq ?_
            refine g_region ?_
            refine g_pure (p_fieldAddr rfl) rfl ?_
            refine g_pure (p_load (by rfl) rfl (by first | (apply Has.own; (repeat' (first | exact Take.here | apply Take.there)); done) | exact Has.ro (by assumption)) (by first | rfl | assumption)) rfl ?_
            refine g_eff (e_bs (xs := [.tmp 38]) rfl rfl rfl (by rfl) (by rfl) rfl (by rfl)) rfl (fun _ _ => ?_)
            rintro ⟨b39, rfl, rfl⟩
            refine g_pure (p_assign rfl) rfl ?_
            refine g_nil ?_
            refine g_qt ?_
            refine g_ret ?_
            refine g_qb_ret ?_
            refine g_qt_ret ?_
            first | (obtain rfl : R = [i.2.2.1] := hR.trans (if_pos (by omega)); refine g_fold (e := 3) (size := 1) (g := b13) (k := 1) (cap := 1) (cur := [.int .i64 i.2.2.1]) (xs := ([i.2.2.1] : List Int).map encI) (by repeat' (first | exact Take.here | apply Take.there)) (by decide) (by decide) rfl rfl ?_; exact g_post (rs := [.tmp 4]) rfl (.tmp rfl .nil) ⟨some ⟨b13, 0, none⟩, 1, rfl, rfl⟩ (by repeat' (first | exact Cover.nil | exact Take.here | apply Cover.cons | apply Take.there))) | (obtain rfl : R = [i.2.2.1] := hR.trans ((if_neg (by omega)).trans ((if_pos (by omega)).trans (if_pos (by omega)))); refine g_fold (e := 3) (size := 1) (g := b23) (k := 1) (cap := 1) (cur := [.int .i64 i.2.2.1]) (xs := ([i.2.2.1] : List Int).map encI) (by repeat' (first | exact Take.here | apply Take.there)) (by decide) (by decide) rfl rfl ?_; exact g_post (rs := [.tmp 4]) rfl (.tmp rfl .nil) ⟨some ⟨b23, 0, none⟩, 1, rfl, rfl⟩ (by repeat' (first | exact Cover.nil | exact Take.here | apply Cover.cons | apply Take.there))) | (obtain rfl : R = [min i.2.2.1 i.2.2.2.1, max i.2.2.1 i.2.2.2.1] := hR.trans ((if_neg (by omega)).trans ((if_pos (by omega)).trans (if_neg (by omega)))); refine g_fold (e := 3) (size := 1) (g := b34) (k := 2) (cap := 2) (cur := [.int .i64 (min i.2.2.1 i.2.2.2.1), .int .i64 (max i.2.2.1 i.2.2.2.1)]) (xs := ([min i.2.2.1 i.2.2.2.1, max i.2.2.1 i.2.2.2.1] : List Int).map encI) (by repeat' (first | exact Take.here | apply Take.there)) (by decide) (by decide) rfl rfl ?_; exact g_post (rs := [.tmp 4]) rfl (.tmp rfl .nil) ⟨some ⟨b34, 0, none⟩, 2, rfl, rfl⟩ (by repeat' (first | exact Cover.nil | exact Take.here | apply Cover.cons | apply Take.there))) | (obtain rfl : R = [i.2.1] := hR.trans ((if_neg (by omega)).trans ((if_neg (by omega)).trans (if_pos (by omega)))); refine g_fold (e := 3) (size := 1) (g := b39) (k := 1) (cap := 1) (cur := [.int .i64 i.2.1]) (xs := ([i.2.1] : List Int).map encI) (by repeat' (first | exact Take.here | apply Take.there)) (by decide) (by decide) rfl rfl ?_; exact g_post (rs := [.tmp 4]) rfl (.tmp rfl .nil) ⟨some ⟨b39, 0, none⟩, 1, rfl, rfl⟩ (by repeat' (first | exact Cover.nil | exact Take.here | apply Cover.cons | apply Take.there))) | (obtain rfl : R = runP i.2.2.2.1 y.2.1.length := hR.trans ((if_neg (by omega)).trans ((if_neg (by omega)).trans ((if_neg (by omega)).trans (if_pos (by omega))))); exact g_post (rs := [.tmp 4]) rfl (.tmp rfl .nil) ⟨b63, c63, rfl, rfl⟩ (by repeat' (first | exact Cover.nil | exact Take.here | apply Cover.cons | apply Take.there))) | ((have h90 : i.1 = 9 := by omega); (have h91 : ¬ (0 ≤ i.2.1 ∧ i.2.1 < im.2.length) := by omega); obtain rfl : R = [] := hR.trans ((if_neg (by omega)).trans ((if_neg (by omega)).trans ((if_neg (by omega)).trans ((if_pos (by omega)).trans (by rw [hempty (by omega)]; rfl))))); refine g_ownnil (e := 3) (size := 1) ?_; exact g_post (rs := [.tmp 4]) rfl (.tmp rfl .nil) ⟨none, 0, rfl, rfl⟩ (by repeat' (first | exact Cover.nil | exact Take.here | apply Cover.cons | apply Take.there))) | (obtain rfl : R = [] := hR.trans ((if_neg (by omega)).trans ((if_neg (by omega)).trans ((if_neg (by omega)).trans (if_neg (by omega))))); refine g_ownnil (e := 3) (size := 1) ?_; exact g_post (rs := [.tmp 4]) rfl (.tmp rfl .nil) ⟨none, 0, rfl, rfl⟩ (by repeat' (first | exact Cover.nil | exact Take.here | apply Cover.cons | apply Take.there)))
          · refine g_seq ?_
            refine g_region ?_
            refine g_pure (p_eql rfl rfl) rfl ?_
            refine g_pure (p_assign rfl) rfl ?_
            refine g_nil ?_
            refine g_qt ?_
            refine g_ifdL rfl (fun h9 => ?_) (fun h9 => ?_)
            · refine g_seq ?_
              refine g_region ?_
              refine g_pure (p_fieldAddr rfl) rfl ?_
              refine g_pure (p_load (by rfl) rfl (by first | (apply Has.own; (repeat' (first | exact Take.here | apply Take.there)); done) | exact Has.ro (by assumption)) (by first | rfl | assumption)) rfl ?_
              refine g_pure (p_geq rfl rfl) rfl ?_
              refine g_pure (p_move rfl) rfl ?_
              refine g_splitd rfl rfl (fun h10 => ?_) (fun h10 => ?_)
              · refine g_yes rfl rfl ?_
                refine g_pure (p_fieldAddr rfl) rfl ?_
                refine g_yes rfl rfl ?_
                refine g_pure (p_load (by rfl) rfl (by first | (apply Has.own; (repeat' (first | exact Take.here | apply Take.there)); done) | exact Has.ro (by assumption)) (by first | rfl | assumption)) rfl ?_
                refine g_yes rfl rfl ?_
                refine g_pure (p_fieldAddr rfl) rfl ?_
                refine g_yes rfl rfl ?_
                refine g_pure (p_load (by rfl) rfl (by first | (apply Has.own; (repeat' (first | exact Take.here | apply Take.there)); done) | exact Has.ro (by assumption)) (by first | rfl | assumption)) rfl ?_
                refine g_yes rfl rfl ?_
                refine g_pure (p_len (by rfl) rfl) rfl ?_
                refine g_yes rfl rfl ?_
                refine g_pure (p_lss rfl rfl) rfl ?_
                first | refine g_pure (p_pickt rfl rfl) rfl ?_ | refine g_pure (p_pickf rfl rfl) rfl ?_
                refine g_nil ?_
                refine g_qt ?_
                refine g_ifdL rfl (fun h11 => ?_) (fun h11 => ?_)
                · refine g_seq ?_
                  refine m_begin0 (.fl 0 0 (.fl 1 1 (.fl 2 0 (.fl 3 1 (.fl 4 0 (.fl 5 1 (.fl 6 0 (.fl 7 0 (.fl 8 1 (.fl 9 0 (.ef 10 (.fl 11 0 .done)))))))))))) (by kernel_rfl) (by kernel_rfl) ?_
                  refine m_float0 rfl (fun _ _ => p_fieldAddr rfl) rfl ?_
                  refine m_float rfl (p_load (by rfl) rfl (by first | (apply Has.own; (repeat' (first | exact Take.here | apply Take.there)); done) | exact Has.ro (by assumption)) (by first | rfl | assumption)) rfl ?_
                  refine m_float0 rfl (fun _ _ => p_fieldAddr rfl) rfl ?_
                  refine m_float rfl (p_load (by rfl) rfl (by first | (apply Has.own; (repeat' (first | exact Take.here | apply Take.there)); done) | exact Has.ro (by assumption)) (by first | rfl | assumption)) rfl ?_
                  refine m_float0 rfl (fun _ _ => p_fieldAddr rfl) rfl ?_
                  refine m_float rfl (p_load (by rfl) rfl (by first | (apply Has.own; (repeat' (first | exact Take.here | apply Take.there)); done) | exact Has.ro (by assumption)) (by first | rfl | assumption)) rfl ?_
                  refine m_float0 rfl (fun _ _ => p_indexAddr rfl rfl (by omega) (fun _ => (hrow ⟨by omega, by omega⟩).1)) rfl ?_
                  refine m_float0 rfl (fun _ _ => p_fieldAddr rfl) rfl ?_
                  refine m_float rfl (p_load (by rfl) rfl (Has.ro (hrow ⟨by omega, by omega⟩).2.1) (hrow ⟨by omega, by omega⟩).2.2.1) rfl ?_
                  refine m_float0 rfl (fun _ _ => p_len (by rfl) rfl) rfl ?_
                  refine m_call (Hin := []) (Hr := ?hr1) (R := ?rr1) rfl wantedN rfl rfl rfl ?hin1 ?hc1 ?hk1
                  case hin1 => repeat' (first | exact Cover.nil | exact Take.here | apply Cover.cons | apply Take.there)
                  case hc1 => intro ρ' hρ hR; exact rrun_ok i.2.2.2.1 y.2.1.length hi hcil
                  rintro _ _ ⟨b63, c63, rfl, rfl⟩
                  refine ⟨.none (by kernel_rfl), ?_⟩
                  refine m_float0 rfl (fun _ _ => p_assign rfl) rfl ?_
                  refine m_nil ?_
                  refine g_qt ?_
                  refine g_ret ?_
                  refine g_qb_ret ?_
                  refine g_qt_ret ?_
                  first | (obtain rfl : R = [i.2.2.1] := hR.trans (if_pos (by omega)); refine g_fold (e := 3) (size := 1) (g := b13) (k := 1) (cap := 1) (cur := [.int .i64 i.2.2.1]) (xs := ([i.2.2.1] : List Int).map encI) (by repeat' (first | exact Take.here | apply Take.there)) (by decide) (by decide) rfl rfl ?_; exact g_post (rs := [.tmp 4]) rfl (.tmp rfl .nil) ⟨some ⟨b13, 0, none⟩, 1, rfl, rfl⟩ (by repeat' (first | exact Cover.nil | exact Take.here | apply Cover.cons | apply Take.there))) | (obtain rfl : R = [i.2.2.1] := hR.trans ((if_neg (by omega)).trans ((if_pos (by omega)).trans (if_pos (by omega)))); refine g_fold (e := 3) (size := 1) (g := b23) (k := 1) (cap := 1) (cur := [.int .i64 i.2.2.1]) (xs := ([i.2.2.1] : List Int).map encI) (by repeat' (first | exact Take.here | apply Take.there)) (by decide) (by decide) rfl rfl ?_; exact g_post (rs := [.tmp 4]) rfl (.tmp rfl .nil) ⟨some ⟨b23, 0, none⟩, 1, rfl, rfl⟩ (by repeat' (first | exact Cover.nil | exact Take.here | apply Cover.cons | apply Take.there))) | (obtain rfl : R = [min i.2.2.1 i.2.2.2.1, max i.2.2.1 i.2.2.2.1] := hR.trans ((if_neg (by omega)).trans ((if_pos (by omega)).trans (if_neg (by omega)))); refine g_fold (e := 3) (size := 1) (g := b34) (k := 2) (cap := 2) (cur := [.int .i64 (min i.2.2.1 i.2.2.2.1), .int .i64 (max i.2.2.1 i.2.2.2.1)]) (xs := ([min i.2.2.1 i.2.2.2.1, max i.2.2.1 i.2.2.2.1] : List Int).map encI) (by repeat' (first | exact Take.here | apply Take.there)) (by decide) (by decide) rfl rfl ?_; exact g_post (rs := [.tmp 4]) rfl (.tmp rfl .nil) ⟨some ⟨b34, 0, none⟩, 2, rfl, rfl⟩ (by repeat' (first | exact Cover.nil | exact Take.here | apply Cover.cons | apply Take.there))) | (obtain rfl : R = [i.2.1] := hR.trans ((if_neg (by omega)).trans ((if_neg (by omega)).trans (if_pos (by omega)))); refine g_fold (e := 3) (size := 1) (g := b39) (k := 1) (cap := 1) (cur := [.int .i64 i.2.1]) (xs := ([i.2.1] : List Int).map encI) (by repeat' (first | exact Take.here | apply Take.there)) (by decide) (by decide) rfl rfl ?_; exact g_post (rs := [.tmp 4]) rfl (.tmp rfl .nil) ⟨some ⟨b39, 0, none⟩, 1, rfl, rfl⟩ (by repeat' (first | exact Cover.nil | exact Take.here | apply Cover.cons | apply Take.there))) | (obtain rfl : R = runP i.2.2.2.1 y.2.1.length := hR.trans ((if_neg (by omega)).trans ((if_neg (by omega)).trans ((if_neg (by omega)).trans (if_pos (by omega))))); exact g_post (rs := [.tmp 4]) rfl (.tmp rfl .nil) ⟨b63, c63, rfl, rfl⟩ (by repeat' (first | exact Cover.nil | exact Take.here | apply Cover.cons | apply Take.there))) | ((have h90 : i.1 = 9 := by omega); (have h91 : ¬ (0 ≤ i.2.1 ∧ i.2.1 < im.2.length) := by omega); obtain rfl : R = [] := hR.trans ((if_neg (by omega)).trans ((if_neg (by omega)).trans ((if_neg (by omega)).trans ((if_pos (by omega)).trans (by rw [hempty (by omega)]; rfl))))); refine g_ownnil (e := 3) (size := 1) ?_; exact g_post (rs := [.tmp 4]) rfl (.tmp rfl .nil) ⟨none, 0, rfl, rfl⟩ (by repeat' (first | exact Cover.nil | exact Take.here | apply Cover.cons | apply Take.there))) | (obtain rfl : R = [] := hR.trans ((if_neg (by omega)).trans ((if_neg (by omega)).trans ((if_neg (by omega)).trans (if_neg (by omega))))); refine g_ownnil (e := 3) (size := 1) ?_; exact g_post (rs := [.tmp 4]) rfl (.tmp rfl .nil) ⟨none, 0, rfl, rfl⟩ (by repeat' (first | exact Cover.nil | exact Take.here | apply Cover.cons | apply Take.there)))
                · refine g_skip ?_
                  refine g_qb ?_
                  refine g_qt ?_
                  refine g_seq ?_
                  refine g_region ?_
                  refine g_pure (p_assign rfl) rfl ?_
                  refine g_nil ?_
                  refine g_qt ?_
                  refine g_ret ?_
                  first | (obtain rfl : R = [i.2.2.1] := hR.trans (if_pos (by omega)); refine g_fold (e := 3) (size := 1) (g := b13) (k := 1) (cap := 1) (cur := [.int .i64 i.2.2.1]) (xs := ([i.2.2.1] : List Int).map encI) (by repeat' (first | exact Take.here | apply Take.there)) (by decide) (by decide) rfl rfl ?_; exact g_post (rs := [.tmp 4]) rfl (.tmp rfl .nil) ⟨some ⟨b13, 0, none⟩, 1, rfl, rfl⟩ (by repeat' (first | exact Cover.nil | exact Take.here | apply Cover.cons | apply Take.there))) | (obtain rfl : R = [i.2.2.1] := hR.trans ((if_neg (by omega)).trans ((if_pos (by omega)).trans (if_pos (by omega)))); refine g_fold (e := 3) (size := 1) (g := b23) (k := 1) (cap := 1) (cur := [.int .i64 i.2.2.1]) (xs := ([i.2.2.1] : List Int).map encI) (by repeat' (first | exact Take.here | apply Take.there)) (by decide) (by decide) rfl rfl ?_; exact g_post (rs := [.tmp 4]) rfl (.tmp rfl .nil) ⟨some ⟨b23, 0, none⟩, 1, rfl, rfl⟩ (by repeat' (first | exact Cover.nil | exact Take.here | apply Cover.cons | apply Take.there))) | (obtain rfl : R = [min i.2.2.1 i.2.2.2.1, max i.2.2.1 i.2.2.2.1] := hR.trans ((if_neg (by omega)).trans ((if_pos (by omega)).trans (if_neg (by omega)))); refine g_fold (e := 3) (size := 1) (g := b34) (k := 2) (cap := 2) (cur := [.int .i64 (min i.2.2.1 i.2.2.2.1), .int .i64 (max i.2.2.1 i.2.2.2.1)]) (xs := ([min i.2.2.1 i.2.2.2.1, max i.2.2.1 i.2.2.2.1] : List Int).map encI) (by repeat' (first | exact Take.here | apply Take.there)) (by decide) (by decide) rfl rfl ?_; exact g_post (rs := [.tmp 4]) rfl (.tmp rfl .nil) ⟨some ⟨b34, 0, none⟩, 2, rfl, rfl⟩ (by repeat' (first | exact Cover.nil | exact Take.here | apply Cover.cons | apply Take.there))) | (obtain rfl : R = [i.2.1] := hR.trans ((if_neg (by omega)).trans ((if_neg (by omega)).trans (if_pos (by omega)))); refine g_fold (e := 3) (size := 1) (g := b39) (k := 1) (cap := 1) (cur := [.int .i64 i.2.1]) (xs := ([i.2.1] : List Int).map encI) (by repeat' (first | exact Take.here | apply Take.there)) (by decide) (by decide) rfl rfl ?_; exact g_post (rs := [.tmp 4]) rfl (.tmp rfl .nil) ⟨some ⟨b39, 0, none⟩, 1, rfl, rfl⟩ (by repeat' (first | exact Cover.nil | exact Take.here | apply Cover.cons | apply Take.there))) | (obtain rfl : R = runP i.2.2.2.1 y.2.1.length := hR.trans ((if_neg (by omega)).trans ((if_neg (by omega)).trans ((if_neg (by omega)).trans (if_pos (by omega))))); exact g_post (rs := [.tmp 4]) rfl (.tmp rfl .nil) ⟨b63, c63, rfl, rfl⟩ (by repeat' (first | exact Cover.nil | exact Take.here | apply Cover.cons | apply Take.there))) | ((have h90 : i.1 = 9 := by omega); (have h91 : ¬ (0 ≤ i.2.1 ∧ i.2.1 < im.2.length) := by omega); obtain rfl : R = [] := hR.trans ((if_neg (by omega)).trans ((if_neg (by omega)).trans ((if_neg (by omega)).trans ((if_pos (by omega)).trans (by rw [hempty (by omega)]; rfl))))); refine g_ownnil (e := 3) (size := 1) ?_; exact g_post (rs := [.tmp 4]) rfl (.tmp rfl .nil) ⟨none, 0, rfl, rfl⟩ (by repeat' (first | exact Cover.nil | exact Take.here | apply Cover.cons | apply Take.there))) | (obtain rfl : R = [] := hR.trans ((if_neg (by omega)).trans ((if_neg (by omega)).trans ((if_neg (by omega)).trans (if_neg (by omega))))); refine g_ownnil (e := 3) (size := 1) ?_; exact g_post (rs := [.tmp 4]) rfl (.tmp rfl .nil) ⟨none, 0, rfl, rfl⟩ (by repeat' (first | exact Cover.nil | exact Take.here | apply Cover.cons | apply Take.there)))
              · refine g_no rfl rfl rfl rfl ?_
                refine g_no rfl rfl rfl rfl ?_
                refine g_no rfl rfl rfl rfl ?_
                refine g_no rfl rfl rfl rfl ?_
                refine g_no rfl rfl rfl rfl ?_
                refine g_no rfl rfl rfl rfl ?_
                first | refine g_pure (p_pickt rfl rfl) rfl ?_ | refine g_pure (p_pickf rfl rfl) rfl ?_
                refine g_nil ?_
                refine g_qt ?_
                refine g_iff rfl ?_
                refine g_skip ?_
                refine g_qb ?_
                refine g_qt ?_
                refine g_seq ?_
                refine g_region ?_
                refine g_pure (p_assign rfl) rfl ?_
                refine g_nil ?_
                refine g_qt ?_
                refine g_ret ?_
                first | (obtain rfl : R = [i.2.2.1] := hR.trans (if_pos (by omega)); refine g_fold (e := 3) (size := 1) (g := b13) (k := 1) (cap := 1) (cur := [.int .i64 i.2.2.1]) (xs := ([i.2.2.1] : List Int).map encI) (by repeat' (first | exact Take.here | apply Take.there)) (by decide) (by decide) rfl rfl ?_; exact g_post (rs := [.tmp 4]) rfl (.tmp rfl .nil) ⟨some ⟨b13, 0, none⟩, 1, rfl, rfl⟩ (by repeat' (first | exact Cover.nil | exact Take.here | apply Cover.cons | apply Take.there))) | (obtain rfl : R = [i.2.2.1] := hR.trans ((if_neg (by omega)).trans ((if_pos (by omega)).trans (if_pos (by omega)))); refine g_fold (e := 3) (size := 1) (g := b23) (k := 1) (cap := 1) (cur := [.int .i64 i.2.2.1]) (xs := ([i.2.2.1] : List Int).map encI) (by repeat' (first | exact Take.here | apply Take.there)) (by decide) (by decide) rfl rfl ?_; exact g_post (rs := [.tmp 4]) rfl (.tmp rfl .nil) ⟨some ⟨b23, 0, none⟩, 1, rfl, rfl⟩ (by repeat' (first | exact Cover.nil | exact Take.here | apply Cover.cons | apply Take.there))) | (obtain rfl : R = [min i.2.2.1 i.2.2.2.1, max i.2.2.1 i.2.2.2.1] := hR.trans ((if_neg (by omega)).trans ((if_pos (by omega)).trans (if_neg (by omega)))); refine g_fold (e := 3) (size := 1) (g := b34) (k := 2) (cap := 2) (cur := [.int .i64 (min i.2.2.1 i.2.2.2.1), .int .i64 (max i.2.2.1 i.2.2.2.1)]) (xs := ([min i.2.2.1 i.2.2.2.1, max i.2.2.1 i.2.2.2.1] : List Int).map encI) (by repeat' (first | exact Take.here | apply Take.there)) (by decide) (by decide) rfl rfl ?_; exact g_post (rs := [.tmp 4]) rfl (.tmp rfl .nil) ⟨some ⟨b34, 0, none⟩, 2, rfl, rfl⟩ (by repeat' (first | exact Cover.nil | exact Take.here | apply Cover.cons | apply Take.there))) | (obtain rfl : R = [i.2.1] := hR.trans ((if_neg (by omega)).trans ((if_neg (by omega)).trans (if_pos (by omega)))); refine g_fold (e := 3) (size := 1) (g := b39) (k := 1) (cap := 1) (cur := [.int .i64 i.2.1]) (xs := ([i.2.1] : List Int).map encI) (by repeat' (first | exact Take.here | apply Take.there)) (by decide) (by decide) rfl rfl ?_; exact g_post (rs := [.tmp 4]) rfl (.tmp rfl .nil) ⟨some ⟨b39, 0, none⟩, 1, rfl, rfl⟩ (by repeat' (first | exact Cover.nil | exact Take.here | apply Cover.cons | apply Take.there))) | (obtain rfl : R = runP i.2.2.2.1 y.2.1.length := hR.trans ((if_neg (by omega)).trans ((if_neg (by omega)).trans ((if_neg (by omega)).trans (if_pos (by omega))))); exact g_post (rs := [.tmp 4]) rfl (.tmp rfl .nil) ⟨b63, c63, rfl, rfl⟩ (by repeat' (first | exact Cover.nil | exact Take.here | apply Cover.cons | apply Take.there))) | ((have h90 : i.1 = 9 := by omega); (have h91 : ¬ (0 ≤ i.2.1 ∧ i.2.1 < im.2.length) := by omega); obtain rfl : R = [] := hR.trans ((if_neg (by omega)).trans ((if_neg (by omega)).trans ((if_neg (by omega)).trans ((if_pos (by omega)).trans (by rw [hempty (by omega)]; rfl))))); refine g_ownnil (e := 3) (size := 1) ?_; exact g_post (rs := [.tmp 4]) rfl (.tmp rfl .nil) ⟨none, 0, rfl, rfl⟩ (by repeat' (first | exact Cover.nil | exact Take.here | apply Cover.cons | apply Take.there))) | (obtain rfl : R = [] := hR.trans ((if_neg (by omega)).trans ((if_neg (by omega)).trans ((if_neg (by omega)).trans (if_neg (by omega))))); refine g_ownnil (e := 3) (size := 1) ?_; exact g_post (rs := [.tmp 4]) rfl (.tmp rfl .nil) ⟨none, 0, rfl, rfl⟩ (by repeat' (first | exact Cover.nil | exact Take.here | apply Cover.cons | apply Take.there)))
            · refine g_skip ?_
              refine g_qb ?_
              refine g_qt ?_
              refine g_seq ?_
              refine g_region ?_
              refine g_pure (p_assign rfl) rfl ?_
              refine g_nil ?_
              refine g_qt ?_
              refine g_ret ?_
              first | (obtain rfl : R = [i.2.2.1] := hR.trans (if_pos (by omega)); refine g_fold (e := 3) (size := 1) (g := b13) (k := 1) (cap := 1) (cur := [.int .i64 i.2.2.1]) (xs := ([i.2.2.1] : List Int).map encI) (by repeat' (first | exact Take.here | apply Take.there)) (by decide) (by decide) rfl rfl ?_; exact g_post (rs := [.tmp 4]) rfl (.tmp rfl .nil) ⟨some ⟨b13, 0, none⟩, 1, rfl, rfl⟩ (by repeat' (first | exact Cover.nil | exact Take.here | apply Cover.cons | apply Take.there))) | (obtain rfl : R = [i.2.2.1] := hR.trans ((if_neg (by omega)).trans ((if_pos (by omega)).trans (if_pos (by omega)))); refine g_fold (e := 3) (size := 1) (g := b23) (k := 1) (cap := 1) (cur := [.int .i64 i.2.2.1]) (xs := ([i.2.2.1] : List Int).map encI) (by repeat' (first | exact Take.here | apply Take.there)) (by decide) (by decide) rfl rfl ?_; exact g_post (rs := [.tmp 4]) rfl (.tmp rfl .nil) ⟨some ⟨b23, 0, none⟩, 1, rfl, rfl⟩ (by repeat' (first | exact Cover.nil | exact Take.here | apply Cover.cons | apply Take.there))) | (obtain rfl : R = [min i.2.2.1 i.2.2.2.1, max i.2.2.1 i.2.2.2.1] := hR.trans ((if_neg (by omega)).trans ((if_pos (by omega)).trans (if_neg (by omega)))); refine g_fold (e := 3) (size := 1) (g := b34) (k := 2) (cap := 2) (cur := [.int .i64 (min i.2.2.1 i.2.2.2.1), .int .i64 (max i.2.2.1 i.2.2.2.1)]) (xs := ([min i.2.2.1 i.2.2.2.1, max i.2.2.1 i.2.2.2.1] : List Int).map encI) (by repeat' (first | exact Take.here | apply Take.there)) (by decide) (by decide) rfl rfl ?_; exact g_post (rs := [.tmp 4]) rfl (.tmp rfl .nil) ⟨some ⟨b34, 0, none⟩, 2, rfl, rfl⟩ (by repeat' (first | exact Cover.nil | exact Take.here | apply Cover.cons | apply Take.there))) | (obtain rfl : R = [i.2.1] := hR.trans ((if_neg (by omega)).trans ((if_neg (by omega)).trans (if_pos (by omega)))); refine g_fold (e := 3) (size := 1) (g := b39) (k := 1) (cap := 1) (cur := [.int .i64 i.2.1]) (xs := ([i.2.1] : List Int).map encI) (by repeat' (first | exact Take.here | apply Take.there)) (by decide) (by decide) rfl rfl ?_; exact g_post (rs := [.tmp 4]) rfl (.tmp rfl .nil) ⟨some ⟨b39, 0, none⟩, 1, rfl, rfl⟩ (by repeat' (first | exact Cover.nil | exact Take.here | apply Cover.cons | apply Take.there))) | (obtain rfl : R = runP i.2.2.2.1 y.2.1.length := hR.trans ((if_neg (by omega)).trans ((if_neg (by omega)).trans ((if_neg (by omega)).trans (if_pos (by omega))))); exact g_post (rs := [.tmp 4]) rfl (.tmp rfl .nil) ⟨b63, c63, rfl, rfl⟩ (by repeat' (first | exact Cover.nil | exact Take.here | apply Cover.cons | apply Take.there))) | ((have h90 : i.1 = 9 := by omega); (have h91 : ¬ (0 ≤ i.2.1 ∧ i.2.1 < im.2.length) := by omega); obtain rfl : R = [] := hR.trans ((if_neg (by omega)).trans ((if_neg (by omega)).trans ((if_neg (by omega)).trans ((if_pos (by omega)).trans (by rw [hempty (by omega)]; rfl))))); refine g_ownnil (e := 3) (size := 1) ?_; exact g_post (rs := [.tmp 4]) rfl (.tmp rfl .nil) ⟨none, 0, rfl, rfl⟩ (by repeat' (first | exact Cover.nil | exact Take.here | apply Cover.cons | apply Take.there))) | (obtain rfl : R = [] := hR.trans ((if_neg (by omega)).trans ((if_neg (by omega)).trans ((if_neg (by omega)).trans (if_neg (by omega))))); refine g_ownnil (e := 3) (size := 1) ?_; exact g_post (rs := [.tmp 4]) rfl (.tmp rfl .nil) ⟨none, 0, rfl, rfl⟩ (by repeat' (first | exact Cover.nil | exact Take.here | apply Cover.cons | apply Take.there)))

theorem rsets_ok {ρ : Nat → Obj → Prop} {ea ra : Option Addr} {ec rc : Nat} {im : Im} (h : ImI ρ ea ra im) (i : Ins) (hi : bigI i.2.2.2.2) :
    Con Tryz.prog ρ 20 #[.agg #[.slice ea im.1.length ec, .slice ra im.2.length rc], .agg (encIns i).toArray] []
    (fun v H => ∃ a c, v = .slice a (setsP im.2 i).length c ∧ H = [OwnSl 3 1 a (setsP im.2 i).length c ((setsP im.2 i).map encI)]) := by
  have hrl := h.rl
  have hcok := calledP_len h.ok i.2.1
  have hcol := hcok.ol
  obtain ⟨y, hy⟩ : ∃ y, calledP im.2 i.2.1 = y := ⟨_, rfl⟩
  obtain ⟨b, off, cs, T, fz, ja, jc, pa, pc, hrow, hempty⟩ := called_row h i.2.1 hy
  have hR : setsP im.2 i = if i.1 = 1 ∨ i.1 = 2 ∨ i.1 = 3 ∨ i.1 = 5 ∨ i.1 = 6 then [i.2.1] else if i.1 = 9 then runP i.2.2.2.2 y.2.2.1.length else [] := by unfold setsP; rw [hy]
  rw [hy] at hcol
  generalize setsP im.2 i = R at hR ⊢
  refine con_intro Tryz.func20 Tryz.call20 rfl Tryz.ntmps20 rfl (L := [(0, _), (1, _)]) rfl fun w hh => ?_
  refine g_seq ?_
  refine g_region ?_
  refine g_eff (e_box rfl (by rfl)) rfl (fun _ _ => ?_)
  rintro ⟨b2, rfl, rfl⟩
  refine g_eff (e_box rfl (by rfl)) rfl (fun _ _ => ?_)
  rintro ⟨b3, rfl, rfl⟩
  refine g_pure (p_assign rfl) rfl ?_
  refine g_nil ?_
  refine g_qt ?_
  refine g_seq ?_
  refine g_seq ?_
  refine g_region ?_
  refine g_pure (p_fieldAddr rfl) rfl ?_
  refine g_pure (p_load (by rfl) rfl (by first | (apply Has.own; (repeat' (first | exact Take.here | apply Take.there)); done) | exact Has.ro (by assumption)) (by first | rfl | assumption)) rfl ?_
  refine g_nil ?_
  refine g_qt ?_
  refine g_block ?_
  refine g_seq ?_
  refine g_seq ?_
  refine g_region ?_
  refine g_pure (p_eql rfl rfl) rfl ?_
  refine g_pure (p_assign rfl) rfl ?_
  refine g_nil ?_
  refine g_qt ?_
  refine g_ifdL rfl (fun h1 => ?_) (fun h1 => ?_)
  · refine g_skip ?_
    refine g_qt ?_
    refine g_ift rfl ?_
    refine g_seq ?_
    refine g_region ?_
    refine g_pure (p_fieldAddr rfl) rfl ?_
    refine g_pure (p_load (by rfl) rfl (by first | (apply Has.own; (repeat' (first | exact Take.here | apply Take.there)); done) | exact Has.ro (by assumption)) (by first | rfl | assumption)) rfl ?_
    refine g_eff (e_bs (xs := [.tmp 14]) rfl rfl rfl (by rfl) (by rfl) rfl (by rfl)) rfl (fun _ _ => ?_)
    rintro ⟨b15, rfl, rfl⟩
    refine g_pure (p_assign rfl) rfl ?_
    refine g_nil ?_
    refine g_qt ?_
    refine g_ret ?_
    refine g_qb_ret ?_
    refine g_qt_ret ?_
    first | (obtain rfl : R = [i.2.1] := hR.trans (if_pos (by omega)); refine g_fold (e := 3) (size := 1) (g := b15) (k := 1) (cap := 1) (cur := [.int .i64 i.2.1]) (xs := ([i.2.1] : List Int).map encI) (by repeat' (first | exact Take.here | apply Take.there)) (by decide) (by decide) rfl rfl ?_; exact g_post (rs := [.tmp 4]) rfl (.tmp rfl .nil) ⟨some ⟨b15, 0, none⟩, 1, rfl, rfl⟩ (by repeat' (first | exact Cover.nil | exact Take.here | apply Cover.cons | apply Take.there))) | (obtain rfl : R = runP i.2.2.2.2 y.2.2.1.length := hR.trans ((if_neg (by omega)).trans (if_pos (by omega))); exact g_post (rs := [.tmp 4]) rfl (.tmp rfl .nil) ⟨b39, c39, rfl, rfl⟩ (by repeat' (first | exact Cover.nil | exact Take.here | apply Cover.cons | apply Take.there))) | ((have h90 : i.1 = 9 := by omega); (have h91 : ¬ (0 ≤ i.2.1 ∧ i.2.1 < im.2.length) := by omega); obtain rfl : R = [] := hR.trans ((if_neg (by omega)).trans ((if_pos (by omega)).trans (by rw [hempty (by omega)]; rfl))); refine g_ownnil (e := 3) (size := 1) ?_; exact g_post (rs := [.tmp 4]) rfl (.tmp rfl .nil) ⟨none, 0, rfl, rfl⟩ (by repeat' (first | exact Cover.nil | exact Take.here | apply Cover.cons | apply Take.there))) | (obtain rfl : R = [] := hR.trans ((if_neg (by omega)).trans (if_neg (by omega))); refine g_ownnil (e := 3) (size := 1) ?_; exact g_post (rs := [.tmp 4]) rfl (.tmp rfl .nil) ⟨none, 0, rfl, rfl⟩ (by repeat' (first | exact Cover.nil | exact Take.here | apply Cover.cons | apply Take.there)))
  · refine g_seq ?_
    refine g_region ?_
    refine g_pure (p_eql rfl rfl) rfl ?_
    refine g_pure (p_assign rfl) rfl ?_
    refine g_nil ?_
    refine g_qt ?_
    refine g_ifdL rfl (fun h3 => ?_) (fun h3 => ?_)
    · refine g_skip ?_
      refine g_qt ?_
      refine g_ift rfl ?_
      refine g_seq ?_
      refine g_region ?_
      refine g_pure (p_fieldAddr rfl) rfl ?_
      refine g_pure (p_load (by rfl) rfl (by first | (apply Has.own; (repeat' (first | exact Take.here | apply Take.there)); done) | exact Has.ro (by assumption)) (by first | rfl | assumption)) rfl ?_
      refine g_eff (e_bs (xs := [.tmp 14]) rfl rfl rfl (by rfl) (by rfl) rfl (by rfl)) rfl (fun _ _ => ?_)
      rintro ⟨b15, rfl, rfl⟩
      refine g_pure (p_assign rfl) rfl ?_
      refine g_nil ?_
      refine g_qt ?_
      refine g_ret ?_
      refine g_qb_ret ?_
      refine g_qt_ret ?_
      first | (obtain rfl : R = [i.2.1] := hR.trans (if_pos (by omega)); refine g_fold (e := 3) (size := 1) (g := b15) (k := 1) (cap := 1) (cur := [.int .i64 i.2.1]) (xs := ([i.2.1] : List Int).map encI) (by repeat' (first | exact Take.here | apply Take.there)) (by decide) (by decide) rfl rfl ?_; exact g_post (rs := [.tmp 4]) rfl (.tmp rfl .nil) ⟨some ⟨b15, 0, none⟩, 1, rfl, rfl⟩ (by repeat' (first | exact Cover.nil | exact Take.here | apply Cover.cons | apply Take.there))) | (obtain rfl : R = runP i.2.2.2.2 y.2.2.1.length := hR.trans ((if_neg (by omega)).trans (if_pos (by omega))); exact g_post (rs := [.tmp 4]) rfl (.tmp rfl .nil) ⟨b39, c39, rfl, rfl⟩ (by repeat' (first | exact Cover.nil | exact Take.here | apply Cover.cons | apply Take.there))) | ((have h90 : i.1 = 9 := by omega); (have h91 : ¬ (0 ≤ i.2.1 ∧ i.2.1 < im.2.length) := by omega); obtain rfl : R = [] := hR.trans ((if_neg (by omega)).trans ((if_pos (by omega)).trans (by rw [hempty (by omega)]; rfl))); refine g_ownnil (e := 3) (size := 1) ?_; exact g_post (rs := [.tmp 4]) rfl (.tmp rfl .nil) ⟨none, 0, rfl, rfl⟩ (by repeat' (first | exact Cover.nil | exact Take.here | apply Cover.cons | apply Take.there))) | (obtain rfl : R = [] := hR.trans ((if_neg (by omega)).trans (if_neg (by omega))); refine g_ownnil (e := 3) (size := 1) ?_; exact g_post (rs := [.tmp 4]) rfl (.tmp rfl .nil) ⟨none, 0, rfl, rfl⟩ (by repeat' (first | exact Cover.nil | exact Take.here | apply Cover.cons | apply Take.there)))
    · refine g_seq ?_
      refine g_region ?_
      refine g_pure (p_eql rfl rfl) rfl ?_
      refine g_pure (p_assign rfl) rfl ?_
      refine g_nil ?_
      refine g_qt ?_
      refine g_ifdL rfl (fun h5 => ?_) (fun h5 => ?_)
      · refine g_skip ?_
        refine g_qt ?_
        refine g_ift rfl ?_
        refine g_seq ?_
        refine g_region ?_
        refine g_pure (p_fieldAddr rfl) rfl ?_
        refine g_pure (p_load (by rfl) rfl (by first | (apply Has.own; (repeat' (first | exact Take.here | apply Take.there)); done) | exact Has.ro (by assumption)) (by first | rfl | assumption)) rfl ?_
        refine g_eff (e_bs (xs := [.tmp 14]) rfl rfl rfl (by rfl) (by rfl) rfl (by rfl)) rfl (fun _ _ => ?_)
        rintro ⟨b15, rfl, rfl⟩
        refine g_pure (p_assign rfl) rfl ?_
        refine g_nil ?_
        refine g_qt ?_
        refine g_ret ?_
        refine g_qb_ret ?_
        refine g_qt_ret ?_
        first | (obtain rfl : R = [i.2.1] := hR.trans (if_pos (by omega)); refine g_fold (e := 3) (size := 1) (g := b15) (k := 1) (cap := 1) (cur := [.int .i64 i.2.1]) (xs := ([i.2.1] : List Int).map encI) (by repeat' (first | exact Take.here | apply Take.there)) (by decide) (by decide) rfl rfl ?_; exact g_post (rs := [.tmp 4]) rfl (.tmp rfl .nil) ⟨some ⟨b15, 0, none⟩, 1, rfl, rfl⟩ (by repeat' (first | exact Cover.nil | exact Take.here | apply Cover.cons | apply Take.there))) | (obtain rfl : R = runP i.2.2.2.2 y.2.2.1.length := hR.trans ((if_neg (by omega)).trans (if_pos (by omega))); exact g_post (rs := [.tmp 4]) rfl (.tmp rfl .nil) ⟨b39, c39, rfl, rfl⟩ (by repeat' (first | exact Cover.nil | exact Take.here | apply Cover.cons | apply Take.there))) | ((have h90 : i.1 = 9 := by omega); (have h91 : ¬ (0 ≤ i.2.1 ∧ i.2.1 < im.2.length) := by omega); obtain rfl : R = [] := hR.trans ((if_neg (by omega)).trans ((if_pos (by omega)).trans (by rw [hempty (by omega)]; rfl))); refine g_ownnil (e := 3) (size := 1) ?_; exact g_post (rs := [.tmp 4]) rfl (.tmp rfl .nil) ⟨none, 0, rfl, rfl⟩ (by repeat' (first | exact Cover.nil | exact Take.here | apply Cover.cons | apply Take.there))) | (obtain rfl : R = [] := hR.trans ((if_neg (by omega)).trans (if_neg (by omega))); refine g_ownnil (e := 3) (size := 1) ?_; exact g_post (rs := [.tmp 4]) rfl (.tmp rfl .nil) ⟨none, 0, rfl, rfl⟩ (by repeat' (first | exact Cover.nil | exact Take.here | apply Cover.cons | apply Take.there)))
      · refine g_seq ?_
        refine g_region ?_
        refine g_pure (p_eql rfl rfl) rfl ?_
        refine g_pure (p_assign rfl) rfl ?_
        refine g_nil ?_
        refine g_qt ?_
        refine g_ifdL rfl (fun h7 => ?_) (fun h7 => ?_)
        · refine g_skip ?_
          refine g_qt ?_
          refine g_ift rfl ?_
          refine g_seq ?_
          refine g_region ?_
          refine g_pure (p_fieldAddr rfl) rfl ?_
          refine g_pure (p_load (by rfl) rfl (by first | (apply Has.own; (repeat' (first | exact Take.here | apply Take.there)); done) | exact Has.ro (by assumption)) (by first | rfl | assumption)) rfl ?_
          refine g_eff (e_bs (xs := [.tmp 14]) rfl rfl rfl (by rfl) (by rfl) rfl (by rfl)) rfl (fun _ _ => ?_)
          rintro ⟨b15, rfl, rfl⟩
          refine g_pure (p_assign rfl) rfl ?_
          refine g_nil ?_
          refine g_qt ?_
          refine g_ret ?_
          refine g_qb_ret ?_
          refine g_qt_ret ?_
          first | (obtain rfl : R = [i.2.1] := hR.trans (if_pos (by omega)); refine g_fold (e := 3) (size := 1) (g := b15) (k := 1) (cap := 1) (cur := [.int .i64 i.2.1]) (xs := ([i.2.1] : List Int).map encI) (by repeat' (first | exact Take.here | apply Take.there)) (by decide) (by decide) rfl rfl ?_; exact g_post (rs := [.tmp 4]) rfl (.tmp rfl .nil) ⟨some ⟨b15, 0, none⟩, 1, rfl, rfl⟩ (by repeat' (first | exact Cover.nil | exact Take.here | apply Cover.cons | apply Take.there))) | (obtain rfl : R = runP i.2.2.2.2 y.2.2.1.length := hR.trans ((if_neg (by omega)).trans (if_pos (by omega))); exact g_post (rs := [.tmp 4]) rfl (.tmp rfl .nil) ⟨b39, c39, rfl, rfl⟩ (by repeat' (first | exact Cover.nil | exact Take.here | apply Cover.cons | apply Take.there))) | ((have h90 : i.1 = 9 := by omega); (have h91 : ¬ (0 ≤ i.2.1 ∧ i.2.1 < im.2.length) := by omega); obtain rfl : R = [] := hR.trans ((if_neg (by omega)).trans ((if_pos (by omega)).trans (by rw [hempty (by omega)]; rfl))); refine g_ownnil (e := 3) (size := 1) ?_; exact g_post (rs := [.tmp 4]) rfl (.tmp rfl .nil) ⟨none, 0, rfl, rfl⟩ (by repeat' (first | exact Cover.nil | exact Take.here | apply Cover.cons | apply Take.there))) | (obtain rfl : R = [] := hR.trans ((if_neg (by omega)).trans (if_neg (by omega))); refine g_ownnil (e := 3) (size := 1) ?_; exact g_post (rs := [.tmp 4]) rfl (.tmp rfl .nil) ⟨none, 0, rfl, rfl⟩ (by repeat' (first | exact Cover.nil | exact Take.here | apply Cover.cons | apply Take.there)))
        · refine g_region ?_
          refine g_pure (p_eql rfl rfl) rfl ?_
          refine g_pure (p_assign rfl) rfl ?_
          refine g_nil ?_
          refine g_qt ?_
          refine g_ifdL rfl (fun h9 => ?_) (fun h9 => ?_)
          · refine g_seq ?_
            refine g_region ?_
            refine g_pure (p_fieldAddr rfl) rfl ?_
            refine g_pure (p_load (by rfl) rfl (by first | (apply Has.own; (repeat' (first | exact Take.here | apply Take.there)); done) | exact Has.ro (by assumption)) (by first | rfl | assumption)) rfl ?_
            refine g_eff (e_bs (xs := [.tmp 14]) rfl rfl rfl (by rfl) (by rfl) rfl (by rfl)) rfl (fun _ _ => ?_)
            rintro ⟨b15, rfl, rfl⟩
            refine g_pure (p_assign rfl) rfl ?_
            refine g_nil ?_
            refine g_qt ?_
            refine g_ret ?_
            refine g_qb_ret ?_
            refine g_qt_ret ?_
            first | (obtain rfl : R = [i.2.1] := hR.trans (if_pos (by omega)); refine g_fold (e := 3) (size := 1) (g := b15) (k := 1) (cap := 1) (cur := [.int .i64 i.2.1]) (xs := ([i.2.1] : List Int).map encI) (by repeat' (first | exact Take.here | apply Take.there)) (by decide) (by decide) rfl rfl ?_; exact g_post (rs := [.tmp 4]) rfl (.tmp rfl .nil) ⟨some ⟨b15, 0, none⟩, 1, rfl, rfl⟩ (by repeat' (first | exact Cover.nil | exact Take.here | apply Cover.cons | apply Take.there))) | (obtain rfl : R = runP i.2.2.2.2 y.2.2.1.length := hR.trans ((if_neg (by omega)).trans (if_pos (by omega))); exact g_post (rs := [.tmp 4]) rfl (.tmp rfl .nil) ⟨b39, c39, rfl, rfl⟩ (by repeat' (first | exact Cover.nil | exact Take.here | apply Cover.cons | apply Take.there))) | ((have h90 : i.1 = 9 := by omega); (have h91 : ¬ (0 ≤ i.2.1 ∧ i.2.1 < im.2.length) := by omega); obtain rfl : R = [] := hR.trans ((if_neg (by omega)).trans ((if_pos (by omega)).trans (by rw [hempty (by omega)]; rfl))); refine g_ownnil (e := 3) (size := 1) ?_; exact g_post (rs := [.tmp 4]) rfl (.tmp rfl .nil) ⟨none, 0, rfl, rfl⟩ (by repeat' (first | exact Cover.nil | exact Take.here | apply Cover.cons | apply Take.there))) | (obtain rfl : R = [] := hR.trans ((if_neg (by omega)).trans (if_neg (by omega))); refine g_ownnil (e := 3) (size := 1) ?_; exact g_post (rs := [.tmp 4]) rfl (.tmp rfl .nil) ⟨none, 0, rfl, rfl⟩ (by repeat' (first | exact Cover.nil | exact Take.here | apply Cover.cons | apply Take.there)))
          · refine g_seq ?_
            refine g_region ?_
            refine g_pure (p_eql rfl rfl) rfl ?_
            refine g_pure (p_assign rfl) rfl ?_
            refine g_nil ?_
            refine g_qt ?_
            refine g_ifdL rfl (fun h10 => ?_) (fun h10 => ?_)
            · refine g_seq ?_
              refine g_region ?_
              refine g_pure (p_fieldAddr rfl) rfl ?_
              refine g_pure (p_load (by rfl) rfl (by first | (apply Has.own; (repeat' (first | exact Take.here | apply Take.there)); done) | exact Has.ro (by assumption)) (by first | rfl | assumption)) rfl ?_
              refine g_pure (p_geq rfl rfl) rfl ?_
              refine g_pure (p_move rfl) rfl ?_
              refine g_splitd rfl rfl (fun h11 => ?_) (fun h11 => ?_)
              · refine g_yes rfl rfl ?_
                refine g_pure (p_fieldAddr rfl) rfl ?_
                refine g_yes rfl rfl ?_
                refine g_pure (p_load (by rfl) rfl (by first | (apply Has.own; (repeat' (first | exact Take.here | apply Take.there)); done) | exact Has.ro (by assumption)) (by first | rfl | assumption)) rfl ?_
                refine g_yes rfl rfl ?_
                refine g_pure (p_fieldAddr rfl) rfl ?_
                refine g_yes rfl rfl ?_
                refine g_pure (p_load (by rfl) rfl (by first | (apply Has.own; (repeat' (first | exact Take.here | apply Take.there)); done) | exact Has.ro (by assumption)) (by first | rfl | assumption)) rfl ?_
                refine g_yes rfl rfl ?_
                refine g_pure (p_len (by rfl) rfl) rfl ?_
                refine g_yes rfl rfl ?_
                refine g_pure (p_lss rfl rfl) rfl ?_
                first | refine g_pure (p_pickt rfl rfl) rfl ?_ | refine g_pure (p_pickf rfl rfl) rfl ?_
                refine g_nil ?_
                refine g_qt ?_
                refine g_ifdL rfl (fun h12 => ?_) (fun h12 => ?_)
                · refine g_seq ?_
                  refine m_begin0 (.fl 0 0 (.fl 1 1 (.fl 2 0 (.fl 3 1 (.fl 4 0 (.fl 5 1 (.fl 6 0 (.fl 7 0 (.fl 8 1 (.fl 9 0 (.ef 10 (.fl 11 0 .done)))))))))))) (by kernel_rfl) (by kernel_rfl) ?_
                  refine m_float0 rfl (fun _ _ => p_fieldAddr rfl) rfl ?_
                  refine m_float rfl (p_load (by rfl) rfl (by first | (apply Has.own; (repeat' (first | exact Take.here | apply Take.there)); done) | exact Has.ro (by assumption)) (by first | rfl | assumption)) rfl ?_
                  refine m_float0 rfl (fun _ _ => p_fieldAddr rfl) rfl ?_
                  refine m_float rfl (p_load (by rfl) rfl (by first | (apply Has.own; (repeat' (first | exact Take.here | apply Take.there)); done) | exact Has.ro (by assumption)) (by first | rfl | assumption)) rfl ?_
                  refine m_float0 rfl (fun _ _ => p_fieldAddr rfl) rfl ?_
                  refine m_float rfl (p_load (by rfl) rfl (by first | (apply Has.own; (repeat' (first | exact Take.here | apply Take.there)); done) | exact Has.ro (by assumption)) (by first | rfl | assumption)) rfl ?_
                  refine m_float0 rfl (fun _ _ => p_indexAddr rfl rfl (by omega) (fun _ => (hrow ⟨by omega, by omega⟩).1)) rfl ?_
                  refine m_float0 rfl (fun _ _ => p_fieldAddr rfl) rfl ?_
                  refine m_float rfl (p_load (by rfl) rfl (Has.ro (hrow ⟨by omega, by omega⟩).2.1) (hrow ⟨by omega, by omega⟩).2.2.2) rfl ?_
                  refine m_float0 rfl (fun _ _ => p_len (by rfl) rfl) rfl ?_
                  refine m_call (Hin := []) (Hr := ?hr2) (R := ?rr2) rfl wantedN rfl rfl rfl ?hin2 ?hc2 ?hk2
                  case hin2 => repeat' (first | exact Cover.nil | exact Take.here | apply Cover.cons | apply Take.there)
                  case hc2 => intro ρ' hρ hR; exact rrun_ok i.2.2.2.2 y.2.2.1.length hi hcol
                  rintro _ _ ⟨b39, c39, rfl, rfl⟩
                  refine ⟨.none (by kernel_rfl), ?_⟩
                  refine m_float0 rfl (fun _ _ => p_assign rfl) rfl ?_
                  refine m_nil ?_
                  refine g_qt ?_
                  refine g_ret ?_
                  refine g_qb_ret ?_
                  refine g_qt_ret ?_
                  first | (obtain rfl : R = [i.2.1] := hR.trans (if_pos (by omega)); refine g_fold (e := 3) (size := 1) (g := b15) (k := 1) (cap := 1) (cur := [.int .i64 i.2.1]) (xs := ([i.2.1] : List Int).map encI) (by repeat' (first | exact Take.here | apply Take.there)) (by decide) (by decide) rfl rfl ?_; exact g_post (rs := [.tmp 4]) rfl (.tmp rfl .nil) ⟨some ⟨b15, 0, none⟩, 1, rfl, rfl⟩ (by repeat' (first | exact Cover.nil | exact Take.here | apply Cover.cons | apply Take.there))) | (obtain rfl : R = runP i.2.2.2.2 y.2.2.1.length := hR.trans ((if_neg (by omega)).trans (if_pos (by omega))); exact g_post (rs := [.tmp 4]) rfl (.tmp rfl .nil) ⟨b39, c39, rfl, rfl⟩ (by repeat' (first | exact Cover.nil | exact Take.here | apply Cover.cons | apply Take.there))) | ((have h90 : i.1 = 9 := by omega); (have h91 : ¬ (0 ≤ i.2.1 ∧ i.2.1 < im.2.length) := by omega); obtain rfl : R = [] := hR.trans ((if_neg (by omega)).trans ((if_pos (by omega)).trans (by rw [hempty (by omega)]; rfl))); refine g_ownnil (e := 3) (size := 1) ?_; exact g_post (rs := [.tmp 4]) rfl (.tmp rfl .nil) ⟨none, 0, rfl, rfl⟩ (by repeat' (first | exact Cover.nil | exact Take.here | apply Cover.cons | apply Take.there))) | (obtain rfl : R = [] := hR.trans ((if_neg (by omega)).trans (if_neg (by omega))); refine g_ownnil (e := 3) (size := 1) ?_; exact g_post (rs := [.tmp 4]) rfl (.tmp rfl .nil) ⟨none, 0, rfl, rfl⟩ (by repeat' (first | exact Cover.nil | exact Take.here | apply Cover.cons | apply Take.there)))
                · refine g_skip ?_
                  refine g_qb ?_
                  refine g_qt ?_
                  refine g_seq ?_
                  refine g_region ?_
                  refine g_pure (p_assign rfl) rfl ?_
                  refine g_nil ?_
                  refine g_qt ?_
                  refine g_ret ?_
                  first | (obtain rfl : R = [i.2.1] := hR.trans (if_pos (by omega)); refine g_fold (e := 3) (size := 1) (g := b15) (k := 1) (cap := 1) (cur := [.int .i64 i.2.1]) (xs := ([i.2.1] : List Int).map encI) (by repeat' (first | exact Take.here | apply Take.there)) (by decide) (by decide) rfl rfl ?_; exact g_post (rs := [.tmp 4]) rfl (.tmp rfl .nil) ⟨some ⟨b15, 0, none⟩, 1, rfl, rfl⟩ (by repeat' (first | exact Cover.nil | exact Take.here | apply Cover.cons | apply Take.there))) | (obtain rfl : R = runP i.2.2.2.2 y.2.2.1.length := hR.trans ((if_neg (by omega)).trans (if_pos (by omega))); exact g_post (rs := [.tmp 4]) rfl (.tmp rfl .nil) ⟨b39, c39, rfl, rfl⟩ (by repeat' (first | exact Cover.nil | exact Take.here | apply Cover.cons | apply Take.there))) | ((have h90 : i.1 = 9 := by omega); (have h91 : ¬ (0 ≤ i.2.1 ∧ i.2.1 < im.2.length) := by omega); obtain rfl : R = [] := hR.trans ((if_neg (by omega)).trans ((if_pos (by omega)).trans (by rw [hempty (by omega)]; rfl))); refine g_ownnil (e := 3) (size := 1) ?_; exact g_post (rs := [.tmp 4]) rfl (.tmp rfl .nil) ⟨none, 0, rfl, rfl⟩ (by repeat' (first | exact Cover.nil | exact Take.here | apply Cover.cons | apply Take.there))) | (obtain rfl : R = [] := hR.trans ((if_neg (by omega)).trans (if_neg (by omega))); refine g_ownnil (e := 3) (size := 1) ?_; exact g_post (rs := [.tmp 4]) rfl (.tmp rfl .nil) ⟨none, 0, rfl, rfl⟩ (by repeat' (first | exact Cover.nil | exact Take.here | apply Cover.cons | apply Take.there)))
              · refine g_no rfl rfl rfl rfl ?_
                refine g_no rfl rfl rfl rfl ?_
                refine g_no rfl rfl rfl rfl ?_
                refine g_no rfl rfl rfl rfl ?_
                refine g_no rfl rfl rfl rfl ?_
                refine g_no rfl rfl rfl rfl ?_
                first | refine g_pure (p_pickt rfl rfl) rfl ?_ | refine g_pure (p_pickf rfl rfl) rfl ?_
                refine g_nil ?_
                refine g_qt ?_
                refine g_iff rfl ?_
                refine g_skip ?_
                refine g_qb ?_
                refine g_qt ?_
                refine g_seq ?_
                refine g_region ?_
                refine g_pure (p_assign rfl) rfl ?_
                refine g_nil ?_
                refine g_qt ?_
                refine g_ret ?_
                first | (obtain rfl : R = [i.2.1] := hR.trans (if_pos (by omega)); refine g_fold (e := 3) (size := 1) (g := b15) (k := 1) (cap := 1) (cur := [.int .i64 i.2.1]) (xs := ([i.2.1] : List Int).map encI) (by repeat' (first | exact Take.here | apply Take.there)) (by decide) (by decide) rfl rfl ?_; exact g_post (rs := [.tmp 4]) rfl (.tmp rfl .nil) ⟨some ⟨b15, 0, none⟩, 1, rfl, rfl⟩ (by repeat' (first | exact Cover.nil | exact Take.here | apply Cover.cons | apply Take.there))) | (obtain rfl : R = runP i.2.2.2.2 y.2.2.1.length := hR.trans ((if_neg (by omega)).trans (if_pos (by omega))); exact g_post (rs := [.tmp 4]) rfl (.tmp rfl .nil) ⟨b39, c39, rfl, rfl⟩ (by repeat' (first | exact Cover.nil | exact Take.here | apply Cover.cons | apply Take.there))) | ((have h90 : i.1 = 9 := by omega); (have h91 : ¬ (0 ≤ i.2.1 ∧ i.2.1 < im.2.length) := by omega); obtain rfl : R = [] := hR.trans ((if_neg (by omega)).trans ((if_pos (by omega)).trans (by rw [hempty (by omega)]; rfl))); refine g_ownnil (e := 3) (size := 1) ?_; exact g_post (rs := [.tmp 4]) rfl (.tmp rfl .nil) ⟨none, 0, rfl, rfl⟩ (by repeat' (first | exact Cover.nil | exact Take.here | apply Cover.cons | apply Take.there))) | (obtain rfl : R = [] := hR.trans ((if_neg (by omega)).trans (if_neg (by omega))); refine g_ownnil (e := 3) (size := 1) ?_; exact g_post (rs := [.tmp 4]) rfl (.tmp rfl .nil) ⟨none, 0, rfl, rfl⟩ (by repeat' (first | exact Cover.nil | exact Take.here | apply Cover.cons | apply Take.there)))
            · refine g_skip ?_
              refine g_qb ?_
              refine g_qt ?_
              refine g_seq ?_
              refine g_region ?_
              refine g_pure (p_assign rfl) rfl ?_
              refine g_nil ?_
              refine g_qt ?_
              refine g_ret ?_
              first | (obtain rfl : R = [i.2.1] := hR.trans (if_pos (by omega)); refine g_fold (e := 3) (size := 1) (g := b15) (k := 1) (cap := 1) (cur := [.int .i64 i.2.1]) (xs := ([i.2.1] : List Int).map encI) (by repeat' (first | exact Take.here | apply Take.there)) (by decide) (by decide) rfl rfl ?_; exact g_post (rs := [.tmp 4]) rfl (.tmp rfl .nil) ⟨some ⟨b15, 0, none⟩, 1, rfl, rfl⟩ (by repeat' (first | exact Cover.nil | exact Take.here | apply Cover.cons | apply Take.there))) | (obtain rfl : R = runP i.2.2.2.2 y.2.2.1.length := hR.trans ((if_neg (by omega)).trans (if_pos (by omega))); exact g_post (rs := [.tmp 4]) rfl (.tmp rfl .nil) ⟨b39, c39, rfl, rfl⟩ (by repeat' (first | exact Cover.nil | exact Take.here | apply Cover.cons | apply Take.there))) | ((have h90 : i.1 = 9 := by omega); (have h91 : ¬ (0 ≤ i.2.1 ∧ i.2.1 < im.2.length) := by omega); obtain rfl : R = [] := hR.trans ((if_neg (by omega)).trans ((if_pos (by omega)).trans (by rw [hempty (by omega)]; rfl))); refine g_ownnil (e := 3) (size := 1) ?_; exact g_post (rs := [.tmp 4]) rfl (.tmp rfl .nil) ⟨none, 0, rfl, rfl⟩ (by repeat' (first | exact Cover.nil | exact Take.here | apply Cover.cons | apply Take.there))) | (obtain rfl : R = [] := hR.trans ((if_neg (by omega)).trans (if_neg (by omega))); refine g_ownnil (e := 3) (size := 1) ?_; exact g_post (rs := [.tmp 4]) rfl (.tmp rfl .nil) ⟨none, 0, rfl, rfl⟩ (by repeat' (first | exact Cover.nil | exact Take.here | apply Cover.cons | apply Take.there)))

theorem achecks_ok {ρ : Nat → Obj → Prop} (hk : LibA ρ) {ea ra : Option Addr} {ec rc : Nat} {im : Im} (h : ImI ρ ea ra im) :
    Con Tryz.prog ρ 4 #[.agg #[.slice ea im.1.length ec, .slice ra im.2.length rc]] [] (fun v _ => v = .bool true) := by
  refine con_intro Tryz.func4 Tryz.call4 rfl Tryz.ntmps4 rfl (L := [(0, _)]) rfl fun w hh => ?_
  refine g_seq ?_
  refine g_region ?_
  refine g_eff (e_box rfl (by rfl)) rfl (fun _ _ => ?_)
  rintro ⟨b1, rfl, rfl⟩
  refine g_pure (p_assign rfl) rfl ?_
  refine g_nil ?_
  refine g_qt ?_
  refine g_seq ?_
  refine g_seq ?_
  refine g_region ?_
  first | refine g_pure (p_loadO (by rfl) rfl (by first | (apply Has.own; (repeat' (first | exact Take.here | apply Take.there)); done) | exact Has.ro (by assumption)) (by rfl)) rfl ?_ | refine g_pure (p_loadN (by rfl) rfl (by first | (apply Has.own; (repeat' (first | exact Take.here | apply Take.there)); done) | exact Has.ro (by assumption)) (by first | rfl | assumption)) rfl ?_
  refine g_call (Hin := []) (Hr := ?hr3) (R := ?rr3) rfl rfl rfl ?hin3 ?hc3 ?hk3
  case hin3 => repeat' (first | exact Cover.nil | exact Take.here | apply Cover.cons | apply Take.there)
  case hc3 => intro ρ' hρ hR; exact heavy_ok (ec := ec) (rc := rc) (h.mono hρ)
  rintro _ _ ⟨hb4, rfl, rfl⟩
  refine g_nil ?_
  refine g_qt ?_
  refine g_ifL rfl (fun h1 => ?_) (fun h1 => ?_)
  · refine g_seq ?_
    refine g_region ?_
    refine g_call (Hin := []) (Hr := ?hr4) (R := ?rr4) rfl rfl rfl ?hin4 ?hc4 ?hk4
    case hin4 => repeat' (first | exact Cover.nil | exact Take.here | apply Cover.cons | apply Take.there)
    case hc4 => intro ρ' hρ hR; exact lives_ok (hk.mono hρ)
    rintro _ _ ⟨rfl, rfl⟩
    refine g_pure (p_assign rfl) rfl ?_
    refine g_nil ?_
    refine g_qt ?_
    refine g_ret ?_
    refine g_qt_ret ?_
    exact g_post (rs := [.tmp 2]) rfl (.tmp rfl .nil) rfl (by repeat' (first | exact Cover.nil | exact Take.here | apply Cover.cons | apply Take.there))
  · refine g_skip ?_
    refine g_qt ?_
    refine g_seq ?_
    refine m_begin0 (.fl 0 1 (.fl 2 1 (.ef 1 (.ef 3 (.fl 4 0 (.fl 5 0 (.ef 6 (.fl 7 0 (.fl 8 0 .done))))))))) (by kernel_rfl) (by kernel_rfl) ?_
    first | refine m_float rfl (p_loadO (by rfl) rfl (by first | (apply Has.own; (repeat' (first | exact Take.here | apply Take.there)); done) | exact Has.ro (by assumption)) (by rfl)) rfl ?_ | refine m_float rfl (p_loadN (by rfl) rfl (by first | (apply Has.own; (repeat' (first | exact Take.here | apply Take.there)); done) | exact Has.ro (by assumption)) (by first | rfl | assumption)) rfl ?_
    first | refine m_float rfl (p_loadO (by rfl) rfl (by first | (apply Has.own; (repeat' (first | exact Take.here | apply Take.there)); done) | exact Has.ro (by assumption)) (by rfl)) rfl ?_ | refine m_float rfl (p_loadN (by rfl) rfl (by first | (apply Has.own; (repeat' (first | exact Take.here | apply Take.there)); done) | exact Has.ro (by assumption)) (by first | rfl | assumption)) rfl ?_
    refine m_call (Hin := []) (Hr := ?hr5) (R := ?rr5) rfl wantedN rfl rfl rfl ?hin5 ?hc5 ?hk5
    case hin5 => repeat' (first | exact Cover.nil | exact Take.here | apply Cover.cons | apply Take.there)
    case hc5 => intro ρ' hρ hR; exact checkA_ok (ec := ec) (rc := rc) (hk.mono hρ).ops (h.mono hρ)
    rintro _ _ ⟨rfl, rfl⟩
    refine ⟨.some (by repeat' (first | exact Cover.nil | exact Take.here | apply Cover.cons | apply Take.there)), ?_⟩
    refine m_call (Hin := []) (Hr := ?hr6) (R := ?rr6) rfl wantedN rfl rfl rfl ?hin6 ?hc6 ?hk6
    case hin6 => repeat' (first | exact Cover.nil | exact Take.here | apply Cover.cons | apply Take.there)
    case hc6 => intro ρ' hρ hR; exact rcheck_ok (ec := ec) (rc := rc) (h.mono hρ)
    rintro _ _ ⟨rfl, rfl⟩
    refine ⟨.none (by kernel_rfl), ?_⟩
    refine m_float0 rfl (fun _ _ => p_eqlT rfl rfl rfl) rfl ?_
    refine m_float0 rfl (fun _ _ => p_move rfl) rfl ?_
    refine m_call (Hin := []) (Hr := ?hr7) (R := ?rr7) rfl (wantedY rfl rfl) rfl rfl rfl ?hin7 ?hc7 ?hk7
    case hin7 => repeat' (first | exact Cover.nil | exact Take.here | apply Cover.cons | apply Take.there)
    case hc7 => intro ρ' hρ hR; exact lives_ok (hk.mono hρ)
    rintro _ _ ⟨rfl, rfl⟩
    refine ⟨.none (by kernel_rfl), ?_⟩
    first | refine m_float0 rfl (fun _ _ => p_pickt rfl rfl) rfl ?_ | refine m_float0 rfl (fun _ _ => p_pickf rfl rfl) rfl ?_
    refine m_float0 rfl (fun _ _ => p_assign rfl) rfl ?_
    refine m_nil ?_
    refine g_qt ?_
    refine g_ret ?_
    exact g_post (rs := [.tmp 2]) rfl (.tmp rfl .nil) rfl (by repeat' (first | exact Cover.nil | exact Take.here | apply Cover.cons | apply Take.there))

theorem auses_ok {ρ : Nat → Obj → Prop} (hk : LibA ρ) {ea ra : Option Addr} {ec rc : Nat} {im : Im} (h : ImI ρ ea ra im) (i : Ins) :
    Con Tryz.prog ρ 5 #[.agg #[.slice ea im.1.length ec, .slice ra im.2.length rc], .agg (encIns i).toArray] [] (fun v _ => v = .bool true) := by
  refine con_intro Tryz.func5 Tryz.call5 rfl Tryz.ntmps5 rfl (L := [(0, _), (1, _)]) rfl fun w hh => ?_
  refine g_seq ?_
  refine g_region ?_
  refine g_eff (e_box rfl (by rfl)) rfl (fun _ _ => ?_)
  rintro ⟨b2, rfl, rfl⟩
  refine g_eff (e_box rfl (by rfl)) rfl (fun _ _ => ?_)
  rintro ⟨b3, rfl, rfl⟩
  refine g_pure (p_assign rfl) rfl ?_
  refine g_nil ?_
  refine g_qt ?_
  refine g_seq ?_
  refine g_join (fun _ : Unit => [(2, .pointer (some ⟨b2, 0, none⟩)), (3, .pointer (some ⟨b3, 0, none⟩))]) (fun _ => [Blk b2 (.cells [.slice ea im.1.length ec, .slice ra im.2.length rc].toArray 25 (0, 0)), Blk b3 (.cells [.int .i64 i.1, .int .i64 i.2.1, .int .i64 i.2.2.1, .int .i64 i.2.2.2.1, .int .i64 i.2.2.2.2].toArray 32 (0, 0))]) (fun _ => bigI i.2.2.2.1 ∧ bigI i.2.2.2.2) ?_ ?_
  · refine g_seq ?_
    refine g_region ?_
    first | refine g_pure (p_loadO (by rfl) rfl (by first | (apply Has.own; (repeat' (first | exact Take.here | apply Take.there)); done) | exact Has.ro (by assumption)) (by rfl)) rfl ?_ | refine g_pure (p_loadN (by rfl) rfl (by first | (apply Has.own; (repeat' (first | exact Take.here | apply Take.there)); done) | exact Has.ro (by assumption)) (by first | rfl | assumption)) rfl ?_
    refine g_call (Hin := []) (Hr := ?hr8) (R := ?rr8) rfl rfl rfl ?hin8 ?hc8 ?hk8
    case hin8 => repeat' (first | exact Cover.nil | exact Take.here | apply Cover.cons | apply Take.there)
    case hc8 => intro ρ' hρ hR; exact heavy_ok (ec := ec) (rc := rc) (h.mono hρ)
    rintro _ _ ⟨hb6, rfl, rfl⟩
    refine g_pure (p_move rfl) rfl ?_
    refine g_split rfl rfl (fun h1 => ?_) (fun h1 => ?_)
    · refine g_no rfl rfl rfl rfl ?_
      refine g_no rfl rfl rfl rfl ?_
      refine g_no rfl rfl rfl rfl ?_
      first | refine g_pure (p_pickt rfl rfl) rfl ?_ | refine g_pure (p_pickf rfl rfl) rfl ?_
      refine g_pure (p_move rfl) rfl ?_
      refine g_no rfl rfl rfl rfl ?_
      refine g_no rfl rfl rfl rfl ?_
      refine g_no rfl rfl rfl rfl ?_
      first | refine g_pure (p_pickt rfl rfl) rfl ?_ | refine g_pure (p_pickf rfl rfl) rfl ?_
      refine g_pure (p_move rfl) rfl ?_
      refine g_no rfl rfl rfl rfl ?_
      refine g_no rfl rfl rfl rfl ?_
      refine g_no rfl rfl rfl rfl ?_
      first | refine g_pure (p_pickt rfl rfl) rfl ?_ | refine g_pure (p_pickf rfl rfl) rfl ?_
      refine g_pure (p_move rfl) rfl ?_
      refine g_no rfl rfl rfl rfl ?_
      refine g_no rfl rfl rfl rfl ?_
      refine g_no rfl rfl rfl rfl ?_
      first | refine g_pure (p_pickt rfl rfl) rfl ?_ | refine g_pure (p_pickf rfl rfl) rfl ?_
      refine g_nil ?_
      refine g_qt ?_
      refine g_ift rfl ?_
      refine g_seq ?_
      refine g_region ?_
      refine g_call (Hin := []) (Hr := ?hr9) (R := ?rr9) rfl rfl rfl ?hin9 ?hc9 ?hk9
      case hin9 => repeat' (first | exact Cover.nil | exact Take.here | apply Cover.cons | apply Take.there)
      case hc9 => intro ρ' hρ hR; exact lives_ok (hk.mono hρ)
      rintro _ _ ⟨rfl, rfl⟩
      refine g_pure (p_assign rfl) rfl ?_
      refine g_nil ?_
      refine g_qt ?_
      refine g_ret ?_
      refine g_qn_ret ?_
      refine g_qt_ret ?_
      exact g_post (rs := [.tmp 4]) rfl (.tmp rfl .nil) rfl (by repeat' (first | exact Cover.nil | exact Take.here | apply Cover.cons | apply Take.there))
    · refine g_yes rfl rfl ?_
      refine g_pure (p_fieldAddr rfl) rfl ?_
      refine g_yes rfl rfl ?_
      refine g_pure (p_load (by rfl) rfl (by first | (apply Has.own; (repeat' (first | exact Take.here | apply Take.there)); done) | exact Has.ro (by assumption)) (by first | rfl | assumption)) rfl ?_
      refine g_yes rfl rfl ?_
      refine g_pure (p_gtr rfl rfl) rfl ?_
      first | refine g_pure (p_pickt rfl rfl) rfl ?_ | refine g_pure (p_pickf rfl rfl) rfl ?_
      refine g_pure (p_move rfl) rfl ?_
      refine g_splitd rfl rfl (fun h6 => ?_) (fun h6 => ?_)
      · refine g_no rfl rfl rfl rfl ?_
        refine g_no rfl rfl rfl rfl ?_
        refine g_no rfl rfl rfl rfl ?_
        first | refine g_pure (p_pickt rfl rfl) rfl ?_ | refine g_pure (p_pickf rfl rfl) rfl ?_
        refine g_pure (p_move rfl) rfl ?_
        refine g_no rfl rfl rfl rfl ?_
        refine g_no rfl rfl rfl rfl ?_
        refine g_no rfl rfl rfl rfl ?_
        first | refine g_pure (p_pickt rfl rfl) rfl ?_ | refine g_pure (p_pickf rfl rfl) rfl ?_
        refine g_pure (p_move rfl) rfl ?_
        refine g_no rfl rfl rfl rfl ?_
        refine g_no rfl rfl rfl rfl ?_
        refine g_no rfl rfl rfl rfl ?_
        first | refine g_pure (p_pickt rfl rfl) rfl ?_ | refine g_pure (p_pickf rfl rfl) rfl ?_
        refine g_nil ?_
        refine g_qt ?_
        refine g_ift rfl ?_
        refine g_seq ?_
        refine g_region ?_
        refine g_call (Hin := []) (Hr := ?hr10) (R := ?rr10) rfl rfl rfl ?hin10 ?hc10 ?hk10
        case hin10 => repeat' (first | exact Cover.nil | exact Take.here | apply Cover.cons | apply Take.there)
        case hc10 => intro ρ' hρ hR; exact lives_ok (hk.mono hρ)
        rintro _ _ ⟨rfl, rfl⟩
        refine g_pure (p_assign rfl) rfl ?_
        refine g_nil ?_
        refine g_qt ?_
        refine g_ret ?_
        refine g_qn_ret ?_
        refine g_qt_ret ?_
        exact g_post (rs := [.tmp 4]) rfl (.tmp rfl .nil) rfl (by repeat' (first | exact Cover.nil | exact Take.here | apply Cover.cons | apply Take.there))
      · refine g_yes rfl rfl ?_
        refine g_pure (p_fieldAddr rfl) rfl ?_
        refine g_yes rfl rfl ?_
        refine g_pure (p_load (by rfl) rfl (by first | (apply Has.own; (repeat' (first | exact Take.here | apply Take.there)); done) | exact Has.ro (by assumption)) (by first | rfl | assumption)) rfl ?_
        refine g_yes rfl rfl ?_
        refine g_pure (p_lss rfl rfl) rfl ?_
        first | refine g_pure (p_pickt rfl rfl) rfl ?_ | refine g_pure (p_pickf rfl rfl) rfl ?_
        refine g_pure (p_move rfl) rfl ?_
        refine g_splitd rfl rfl (fun h10 => ?_) (fun h10 => ?_)
        · refine g_no rfl rfl rfl rfl ?_
          refine g_no rfl rfl rfl rfl ?_
          refine g_no rfl rfl rfl rfl ?_
          first | refine g_pure (p_pickt rfl rfl) rfl ?_ | refine g_pure (p_pickf rfl rfl) rfl ?_
          refine g_pure (p_move rfl) rfl ?_
          refine g_no rfl rfl rfl rfl ?_
          refine g_no rfl rfl rfl rfl ?_
          refine g_no rfl rfl rfl rfl ?_
          first | refine g_pure (p_pickt rfl rfl) rfl ?_ | refine g_pure (p_pickf rfl rfl) rfl ?_
          refine g_nil ?_
          refine g_qt ?_
          refine g_ift rfl ?_
          refine g_seq ?_
          refine g_region ?_
          refine g_call (Hin := []) (Hr := ?hr11) (R := ?rr11) rfl rfl rfl ?hin11 ?hc11 ?hk11
          case hin11 => repeat' (first | exact Cover.nil | exact Take.here | apply Cover.cons | apply Take.there)
          case hc11 => intro ρ' hρ hR; exact lives_ok (hk.mono hρ)
          rintro _ _ ⟨rfl, rfl⟩
          refine g_pure (p_assign rfl) rfl ?_
          refine g_nil ?_
          refine g_qt ?_
          refine g_ret ?_
          refine g_qn_ret ?_
          refine g_qt_ret ?_
          exact g_post (rs := [.tmp 4]) rfl (.tmp rfl .nil) rfl (by repeat' (first | exact Cover.nil | exact Take.here | apply Cover.cons | apply Take.there))
        · refine g_yes rfl rfl ?_
          refine g_pure (p_fieldAddr rfl) rfl ?_
          refine g_yes rfl rfl ?_
          refine g_pure (p_load (by rfl) rfl (by first | (apply Has.own; (repeat' (first | exact Take.here | apply Take.there)); done) | exact Has.ro (by assumption)) (by first | rfl | assumption)) rfl ?_
          refine g_yes rfl rfl ?_
          refine g_pure (p_gtr rfl rfl) rfl ?_
          first | refine g_pure (p_pickt rfl rfl) rfl ?_ | refine g_pure (p_pickf rfl rfl) rfl ?_
          refine g_pure (p_move rfl) rfl ?_
          refine g_splitd rfl rfl (fun h13 => ?_) (fun h13 => ?_)
          · refine g_no rfl rfl rfl rfl ?_
            refine g_no rfl rfl rfl rfl ?_
            refine g_no rfl rfl rfl rfl ?_
            first | refine g_pure (p_pickt rfl rfl) rfl ?_ | refine g_pure (p_pickf rfl rfl) rfl ?_
            refine g_nil ?_
            refine g_qt ?_
            refine g_ift rfl ?_
            refine g_seq ?_
            refine g_region ?_
            refine g_call (Hin := []) (Hr := ?hr12) (R := ?rr12) rfl rfl rfl ?hin12 ?hc12 ?hk12
            case hin12 => repeat' (first | exact Cover.nil | exact Take.here | apply Cover.cons | apply Take.there)
            case hc12 => intro ρ' hρ hR; exact lives_ok (hk.mono hρ)
            rintro _ _ ⟨rfl, rfl⟩
            refine g_pure (p_assign rfl) rfl ?_
            refine g_nil ?_
            refine g_qt ?_
            refine g_ret ?_
            refine g_qn_ret ?_
            refine g_qt_ret ?_
            exact g_post (rs := [.tmp 4]) rfl (.tmp rfl .nil) rfl (by repeat' (first | exact Cover.nil | exact Take.here | apply Cover.cons | apply Take.there))
          · refine g_yes rfl rfl ?_
            refine g_pure (p_fieldAddr rfl) rfl ?_
            refine g_yes rfl rfl ?_
            refine g_pure (p_load (by rfl) rfl (by first | (apply Has.own; (repeat' (first | exact Take.here | apply Take.there)); done) | exact Has.ro (by assumption)) (by first | rfl | assumption)) rfl ?_
            refine g_yes rfl rfl ?_
            refine g_pure (p_lss rfl rfl) rfl ?_
            first | refine g_pure (p_pickt rfl rfl) rfl ?_ | refine g_pure (p_pickf rfl rfl) rfl ?_
            refine g_nil ?_
            refine g_qt ?_
            refine g_ifdL rfl (fun h15 => ?_) (fun h15 => ?_)
            · refine g_seq ?_
              refine g_region ?_
              refine g_call (Hin := []) (Hr := ?hr13) (R := ?rr13) rfl rfl rfl ?hin13 ?hc13 ?hk13
              case hin13 => repeat' (first | exact Cover.nil | exact Take.here | apply Cover.cons | apply Take.there)
              case hc13 => intro ρ' hρ hR; exact lives_ok (hk.mono hρ)
              rintro _ _ ⟨rfl, rfl⟩
              refine g_pure (p_assign rfl) rfl ?_
              refine g_nil ?_
              refine g_qt ?_
              refine g_ret ?_
              refine g_qn_ret ?_
              refine g_qt_ret ?_
              exact g_post (rs := [.tmp 4]) rfl (.tmp rfl .nil) rfl (by repeat' (first | exact Cover.nil | exact Take.here | apply Cover.cons | apply Take.there))
            · refine g_skip ?_
              refine g_qn ?_
              exact g_joined () (by (repeat (first | exact trivial | refine ⟨by rfl, ?_⟩)); done) (by repeat' (first | exact Cover.nil | exact Take.here | apply Cover.cons | apply Take.there)) ⟨⟨by omega, by omega⟩, by omega, by omega⟩
  rintro _ ⟨hC, hD⟩
  refine g_qt ?_
  have hul : (usesP im.2 i).length ≤ 9223372036854775807 := by
    have := calledP_len h.ok i.2.1
    have h1 := this.il
    unfold usesP
    split
    · simp
    · split
      · split <;> simp
      · split
        · simp
        · split
          · rw [runP_len]; omega
          · simp
  have hsl : (setsP im.2 i).length ≤ 9223372036854775807 := by
    have := calledP_len h.ok i.2.1
    have h1 := this.ol
    unfold setsP
    split
    · simp
    · split
      · rw [runP_len]; omega
      · simp
  have cT : ∀ {ρ' : Nat → Obj → Prop} (a b : Option Addr) (ac bc : Nat) (l : List Int), RSl ρ' 1 a l.length (l.map encI) → RSl ρ' 1 b l.length (l.map encI) → l.length ≤ 9223372036854775807 → Con Tryz.prog ρ' 16 #[.slice a l.length ac, .slice b l.length bc] [] (fun v H => v = .bool true ∧ H = []) := fun a b ac bc l h1 h2 h3 => by
    have := Ints_ok a b ac bc l l h1 h2 h3
    rw [decide_eq_true (p := l = l) rfl] at this
    exact this
  generalize hu : usesP im.2 i = U at hul
  generalize hs : setsP im.2 i = S at hsl
  have cU : ∀ {ρ' : Nat → Obj → Prop}, (∀ b o, ρ b o → ρ' b o) → Con Tryz.prog ρ' 17 #[.agg #[.slice ea im.1.length ec, .slice ra im.2.length rc], .agg (encIns i).toArray] [] (fun v H => ∃ a c, v = .slice a U.length c ∧ H = [OwnSl 3 1 a U.length c (U.map encI)]) := fun hρ => by have := usesA_ok (ec := ec) (rc := rc) (h.mono hρ) i hC; rw [hu] at this; exact this
  have cU' : ∀ {ρ' : Nat → Obj → Prop}, (∀ b o, ρ b o → ρ' b o) → Con Tryz.prog ρ' 18 #[.agg #[.slice ea im.1.length ec, .slice ra im.2.length rc], .agg (encIns i).toArray] [] (fun v H => ∃ a c, v = .slice a U.length c ∧ H = [OwnSl 3 1 a U.length c (U.map encI)]) := fun hρ => by have := ruses_ok (ec := ec) (rc := rc) (h.mono hρ) i hC; rw [hu] at this; exact this
  have cS : ∀ {ρ' : Nat → Obj → Prop}, (∀ b o, ρ b o → ρ' b o) → Con Tryz.prog ρ' 19 #[.agg #[.slice ea im.1.length ec, .slice ra im.2.length rc], .agg (encIns i).toArray] [] (fun v H => ∃ a c, v = .slice a S.length c ∧ H = [OwnSl 3 1 a S.length c (S.map encI)]) := fun hρ => by have := setsA_ok (ec := ec) (rc := rc) (h.mono hρ) i hD; rw [hs] at this; exact this
  have cS' : ∀ {ρ' : Nat → Obj → Prop}, (∀ b o, ρ b o → ρ' b o) → Con Tryz.prog ρ' 20 #[.agg #[.slice ea im.1.length ec, .slice ra im.2.length rc], .agg (encIns i).toArray] [] (fun v H => ∃ a c, v = .slice a S.length c ∧ H = [OwnSl 3 1 a S.length c (S.map encI)]) := fun hρ => by have := rsets_ok (ec := ec) (rc := rc) (h.mono hρ) i hD; rw [hs] at this; exact this
  refine g_seq ?_
  refine m_begin (.fl 0 1 (.fl 1 1 (.fl 3 1 (.fl 4 1 (.ef 2 (.ef 5 (.ef 6 (.fl 7 0 (.fl 8 1 (.fl 9 1 (.fl 11 1 (.fl 12 1 (.ef 10 (.ef 13 (.ef 14 (.fl 15 0 (.fl 16 0 (.ef 17 (.fl 18 0 (.fl 19 0 .done)))))))))))))))))))) [Blk b2 (.cells [.slice ea im.1.length ec, .slice ra im.2.length rc].toArray 25 (0, 0)), Blk b3 (.cells [.int .i64 i.1, .int .i64 i.2.1, .int .i64 i.2.2.1, .int .i64 i.2.2.2.1, .int .i64 i.2.2.2.2].toArray 32 (0, 0))] (by kernel_rfl) (by kernel_rfl) (by repeat' (first | exact Cover.nil | exact Take.here | apply Cover.cons | apply Take.there)) ?_
  first | refine m_float rfl (p_loadO (by rfl) rfl (by first | (apply Has.own; (repeat' (first | exact Take.here | apply Take.there)); done) | exact Has.ro (by assumption)) (by rfl)) rfl ?_ | refine m_float rfl (p_loadN (by rfl) rfl (by first | (apply Has.own; (repeat' (first | exact Take.here | apply Take.there)); done) | exact Has.ro (by assumption)) (by first | rfl | assumption)) rfl ?_
  first | refine m_float rfl (p_loadO (by rfl) rfl (by first | (apply Has.own; (repeat' (first | exact Take.here | apply Take.there)); done) | exact Has.ro (by assumption)) (by rfl)) rfl ?_ | refine m_float rfl (p_loadN (by rfl) rfl (by first | (apply Has.own; (repeat' (first | exact Take.here | apply Take.there)); done) | exact Has.ro (by assumption)) (by first | rfl | assumption)) rfl ?_
  first | refine m_float rfl (p_loadO (by rfl) rfl (by first | (apply Has.own; (repeat' (first | exact Take.here | apply Take.there)); done) | exact Has.ro (by assumption)) (by rfl)) rfl ?_ | refine m_float rfl (p_loadN (by rfl) rfl (by first | (apply Has.own; (repeat' (first | exact Take.here | apply Take.there)); done) | exact Has.ro (by assumption)) (by first | rfl | assumption)) rfl ?_
  first | refine m_float rfl (p_loadO (by rfl) rfl (by first | (apply Has.own; (repeat' (first | exact Take.here | apply Take.there)); done) | exact Has.ro (by assumption)) (by rfl)) rfl ?_ | refine m_float rfl (p_loadN (by rfl) rfl (by first | (apply Has.own; (repeat' (first | exact Take.here | apply Take.there)); done) | exact Has.ro (by assumption)) (by first | rfl | assumption)) rfl ?_
  refine m_call (Hin := []) (Hr := ?hr14) (R := ?rr14) rfl wantedN rfl rfl rfl ?hin14 ?hc14 ?hk14
  case hin14 => repeat' (first | exact Cover.nil | exact Take.here | apply Cover.cons | apply Take.there)
  case hc14 => intro ρ' hρ hR; exact cU hρ
  rintro _ _ ⟨ua, uc, rfl, rfl⟩
  refine ⟨.some (by repeat' (first | exact Cover.nil | exact Take.here | apply Cover.cons | apply Take.there)), ?_⟩
  refine m_call (Hin := []) (Hr := ?hr15) (R := ?rr15) rfl wantedN rfl rfl rfl ?hin15 ?hc15 ?hk15
  case hin15 => repeat' (first | exact Cover.nil | exact Take.here | apply Cover.cons | apply Take.there)
  case hc15 => intro ρ' hρ hR; exact cU' hρ
  rintro _ _ ⟨va, vc, rfl, rfl⟩
  refine ⟨.some (by repeat' (first | exact Cover.nil | exact Take.here | apply Cover.cons | apply Take.there)), ?_⟩
  refine m_call (Hin := []) (Hr := ?hr16) (R := ?rr16) rfl wantedN rfl rfl rfl ?hin16 ?hc16 ?hk16
  case hin16 => repeat' (first | exact Cover.nil | exact Take.here | apply Cover.cons | apply Take.there)
  case hc16 => intro ρ' hρ hR; exact cT ua va uc vc U (RSl.of_own (Take.ro (A := OwnSl 3 1 ua U.length uc (U.map encI)) (by repeat' (first | exact Take.here | apply Take.there)) hR)) (RSl.of_own (Take.ro (A := OwnSl 3 1 va U.length vc (U.map encI)) (by repeat' (first | exact Take.here | apply Take.there)) hR)) hul
  rintro _ _ ⟨rfl, rfl⟩
  refine ⟨.some (by repeat' (first | exact Cover.nil | exact Take.here | apply Cover.cons | apply Take.there)), ?_⟩
  refine m_float0 rfl (fun _ _ => p_move rfl) rfl ?_
  first | refine m_yes rfl rfl rfl (p_loadO (by rfl) rfl (by first | (apply Has.own; (repeat' (first | exact Take.here | apply Take.there)); done) | exact Has.ro (by assumption)) (by rfl)) rfl ?_ | refine m_yes rfl rfl rfl (p_loadN (by rfl) rfl (by first | (apply Has.own; (repeat' (first | exact Take.here | apply Take.there)); done) | exact Has.ro (by assumption)) (by first | rfl | assumption)) rfl ?_
  first | refine m_yes rfl rfl rfl (p_loadO (by rfl) rfl (by first | (apply Has.own; (repeat' (first | exact Take.here | apply Take.there)); done) | exact Has.ro (by assumption)) (by rfl)) rfl ?_ | refine m_yes rfl rfl rfl (p_loadN (by rfl) rfl (by first | (apply Has.own; (repeat' (first | exact Take.here | apply Take.there)); done) | exact Has.ro (by assumption)) (by first | rfl | assumption)) rfl ?_
  first | refine m_yes rfl rfl rfl (p_loadO (by rfl) rfl (by first | (apply Has.own; (repeat' (first | exact Take.here | apply Take.there)); done) | exact Has.ro (by assumption)) (by rfl)) rfl ?_ | refine m_yes rfl rfl rfl (p_loadN (by rfl) rfl (by first | (apply Has.own; (repeat' (first | exact Take.here | apply Take.there)); done) | exact Has.ro (by assumption)) (by first | rfl | assumption)) rfl ?_
  first | refine m_yes rfl rfl rfl (p_loadO (by rfl) rfl (by first | (apply Has.own; (repeat' (first | exact Take.here | apply Take.there)); done) | exact Has.ro (by assumption)) (by rfl)) rfl ?_ | refine m_yes rfl rfl rfl (p_loadN (by rfl) rfl (by first | (apply Has.own; (repeat' (first | exact Take.here | apply Take.there)); done) | exact Has.ro (by assumption)) (by first | rfl | assumption)) rfl ?_
  refine m_call (Hin := []) (Hr := ?hr17) (R := ?rr17) rfl (wantedY rfl rfl) rfl rfl rfl ?hin17 ?hc17 ?hk17
  case hin17 => repeat' (first | exact Cover.nil | exact Take.here | apply Cover.cons | apply Take.there)
  case hc17 => intro ρ' hρ hR; exact cS hρ
  rintro _ _ ⟨sa, sc, rfl, rfl⟩
  refine ⟨.some (by repeat' (first | exact Cover.nil | exact Take.here | apply Cover.cons | apply Take.there)), ?_⟩
  refine m_call (Hin := []) (Hr := ?hr18) (R := ?rr18) rfl (wantedY rfl rfl) rfl rfl rfl ?hin18 ?hc18 ?hk18
  case hin18 => repeat' (first | exact Cover.nil | exact Take.here | apply Cover.cons | apply Take.there)
  case hc18 => intro ρ' hρ hR; exact cS' hρ
  rintro _ _ ⟨ta, tc, rfl, rfl⟩
  refine ⟨.none (by kernel_rfl), ?_⟩
  refine m_call (Hin := []) (Hr := ?hr19) (R := ?rr19) rfl (wantedY rfl rfl) rfl rfl rfl ?hin19 ?hc19 ?hk19
  case hin19 => repeat' (first | exact Cover.nil | exact Take.here | apply Cover.cons | apply Take.there)
  case hc19 => intro ρ' hρ hR; exact cT sa ta sc tc S (RSl.of_own (Take.ro (A := OwnSl 3 1 sa S.length sc (S.map encI)) (by repeat' (first | exact Take.here | apply Take.there)) hR)) (RSl.of_own (Take.ro (A := OwnSl 3 1 ta S.length tc (S.map encI)) (by repeat' (first | exact Take.here | apply Take.there)) hR)) hsl
  rintro _ _ ⟨rfl, rfl⟩
  refine ⟨.none (by kernel_rfl), ?_⟩
  first | refine m_float0 rfl (fun _ _ => p_pickt rfl rfl) rfl ?_ | refine m_float0 rfl (fun _ _ => p_pickf rfl rfl) rfl ?_
  refine m_float0 rfl (fun _ _ => p_move rfl) rfl ?_
  refine m_call (Hin := []) (Hr := ?hr20) (R := ?rr20) rfl (wantedY rfl rfl) rfl rfl rfl ?hin20 ?hc20 ?hk20
  case hin20 => repeat' (first | exact Cover.nil | exact Take.here | apply Cover.cons | apply Take.there)
  case hc20 => intro ρ' hρ hR; exact lives_ok (hk.mono hρ)
  rintro _ _ ⟨rfl, rfl⟩
  refine ⟨.none (by kernel_rfl), ?_⟩
  first | refine m_float0 rfl (fun _ _ => p_pickt rfl rfl) rfl ?_ | refine m_float0 rfl (fun _ _ => p_pickf rfl rfl) rfl ?_
  refine m_float0 rfl (fun _ _ => p_assign rfl) rfl ?_
  refine m_nil ?_
  refine g_qt ?_
  refine g_ret ?_
  exact g_post (rs := [.tmp 4]) rfl (.tmp rfl .nil) rfl (by repeat' (first | exact Cover.nil | exact Take.here | apply Cover.cons | apply Take.there))
end Go.Proofs.YtcnfcoojmbjdlaaGreatDoor
