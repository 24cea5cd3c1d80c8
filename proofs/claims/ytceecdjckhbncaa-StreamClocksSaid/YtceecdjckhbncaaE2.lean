/- Chapter 16: words and dense values. Conditions: none. -/
import Derived.Test.YtceecdjckhbncaaE1
namespace Go.Z.Val
set_option linter.unusedVariables false
set_option linter.unusedSimpArgs false
set_option linter.unusedSectionVars false
open Go Go.Z
def DenseL (a : List Ce) : List Int := a.filterMap fun c => if c.1 = 1 then some c.2 else none
theorem DenseL_y {a : List Ce} {t : Nat} (h : t < a.length) (h1 : (at0 a t).1 = 1) : DenseL (a.take (t + 1)) = DenseL (a.take t) ++ [(at0 a t).2] := by
  rw [at0_eq h] at h1
  unfold DenseL
  rw [at0_eq h, List.take_add_one, List.getElem?_eq_getElem h, Option.toList_some, List.filterMap_append]; simp [h1]
theorem DenseL_n {a : List Ce} {t : Nat} (h : t < a.length) (h1 : ¬ (at0 a t).1 = 1) : DenseL (a.take (t + 1)) = DenseL (a.take t) := by
  rw [at0_eq h] at h1
  unfold DenseL
  rw [List.take_add_one, List.getElem?_eq_getElem h, Option.toList_some, List.filterMap_append]; simp [h1]
theorem DenseL_len (a : List Ce) : (DenseL a).length ≤ a.length := List.length_filterMap_le _ _
end Go.Z.Val
namespace Go.Proofs.Ytceecdjckhbncaa
open Go Go.Z Go.Z.Val

def IntP (xs : List Int) (v : Value) (H : List Assn) : Prop := ∃ o c, v = .slice o xs.length c ∧ H = [OwnSl 3 1 o xs.length c (xs.map encI)]
theorem dense_ok {ρ : Nat → Obj → Prop} {a : List Ce} {aa : Option Addr} {ac : Nat} (ha : RSl ρ 2 aa a.length (a.flatMap encC)) (hlen : a.length ≤ 1000000) :
    Con Try.prog ρ 30 #[.slice aa a.length ac] [] (IntP (DenseL a)) := by
  obtain ⟨_, bl, ol, kl, Tl, fl, hl⟩ := ha
  refine con_intro Try.func30 Try.call30 rfl Try.ntmps30 rfl (L := [(0, _)]) rfl fun w hh => ?_
  refine g_seq ?_
  refine g_region ?_
  refine g_pure (p_assign rfl) rfl ?_
  refine g_nil ?_
  refine g_qt ?_
  refine g_seq ?_
  refine g_region ?_
  refine g_pure (p_assign rfl) rfl ?_
  refine g_nil ?_
  refine g_qt ?_
  refine g_seq ?_
  refine g_seq ?_
  refine g_region ?_
  refine g_pure (p_move rfl) rfl ?_
  refine g_pure (p_len (by rfl) rfl) rfl ?_
  refine g_pure (p_move rfl) rfl ?_
  refine g_nil ?_
  refine g_qt ?_
  refine g_block ?_
  refine g_ownnil (e := 3) (size := 1) ?_
  refine g_loop (fun q : Nat × Option Addr × Nat => [(3, .slice q.2.1 (DenseL (a.take q.1)).length q.2.2), (6, .slice aa a.length ac), (7, .int .i64 a.length), (8, .int .i64 q.1)]) (fun q => [OwnSl 3 1 q.2.1 (DenseL (a.take q.1)).length q.2.2 ((DenseL (a.take q.1)).map encI)]) (fun q => q.1 ≤ a.length) (fun q => a.length - q.1) (0, none, 0) (Nat.zero_le _) (by (repeat (first | exact trivial | refine ⟨by rfl, ?_⟩)); done) (by repeat' (first | exact Cover.nil | exact Take.here | apply Cover.cons | apply Take.there)) ?_
  rintro ⟨t, oa, oc⟩ ht
  dsimp only at ht ⊢
  have hil := DenseL_len (a.take t)
  rw [List.length_take] at hil
  refine g_seq ?_
  refine g_region ?_
  refine g_pure (p_lss rfl rfl) rfl ?_
  refine g_nil ?_
  refine g_qt ?_
  refine g_seq ?_
  refine g_ifd rfl (fun q => ?_) (fun q => ?_)
  · have htl : t < a.length := by omega
    obtain ⟨l1, l2, l3⟩ := hl (by omega)
    obtain ⟨x0, -, -⟩ := cell_at l3 htl
    have hy := DenseL_y htl
    have hn := DenseL_n htl
    have hat := at0_eq htl
    rw [← hat] at x0
    generalize at0 a t = u at *
    obtain ⟨u1, u2⟩ := u
    have x0' : sub kl (ol + (t : Int).toNat * 2) 2 = some (encC (u1, u2)) := x0
    refine g_skip ?_
    refine g_qt ?_
    refine g_seq ?_
    refine g_block ?_
    refine g_seq ?_
    refine g_region ?_
    refine g_pure (p_indexAddr rfl rfl (by omega) (fun _ => l1)) rfl ?_
    refine g_pure (p_loadN (by rfl) rfl (Has.ro l2) x0') rfl ?_
    refine g_eff (e_alloc (by rfl)) rfl (fun _ _ => ?_)
    rintro ⟨b5, rfl, rfl⟩
    first | refine g_eff0 (e_storeO rfl rfl (by rfl) (by rfl) (by rfl) (by repeat' (first | exact Take.here | apply Take.there)) (by rfl)) (fun _ _ => ?_) | refine g_eff0 (e_storeN rfl rfl (by rfl) (by rfl) (by rfl) (by repeat' (first | exact Take.here | apply Take.there)) (by simp)) (fun _ _ => ?_)
    rintro rfl
    refine g_nil ?_
    refine g_qt ?_
    refine g_seq ?_
    refine g_region ?_
    refine g_pure (p_fieldAddr rfl) rfl ?_
    refine g_pure (p_load (by rfl) rfl (by first | (apply Has.own; (repeat' (first | exact Take.here | apply Take.there)); done) | exact Has.ro (by assumption)) (by first | rfl | assumption)) rfl ?_
    refine g_pure (p_eql rfl rfl) rfl ?_
    refine g_nil ?_
    refine g_qt ?_
    refine g_ifd rfl (fun g => ?_) (fun g => ?_)
    · have hm := hy g
      have hm1 : (DenseL (a.take t)).length + 1 = (DenseL (a.take (t + 1))).length := by rw [hm]; simp
      have hm2 : (DenseL (a.take t)).map encI ++ [.int .i64 u2] = (DenseL (a.take (t + 1))).map encI := by rw [hm]; simp [encI]
      refine g_region ?_
      refine g_pure (p_move rfl) rfl ?_
      refine g_pure (p_fieldAddr rfl) rfl ?_
      refine g_pure (p_load (by rfl) rfl (by first | (apply Has.own; (repeat' (first | exact Take.here | apply Take.there)); done) | exact Has.ro (by assumption)) (by first | rfl | assumption)) rfl ?_
      refine g_eff (e_bs (xs := [.tmp 17]) rfl rfl rfl (by rfl) (by rfl) rfl (by rfl)) rfl (fun _ _ => ?_)
      rintro ⟨b18, rfl, rfl⟩
      refine g_eff (e_appendO (by rfl) (by rfl) rfl rfl (by first | (apply Has.own; (repeat' (first | exact Take.here | apply Take.there)); done) | exact Has.ro (by assumption)) (by rfl) (by rfl) (by repeat' (first | exact Take.here | apply Take.there)) (by omega) (by first | omega | (dsimp only; omega) | (simp <;> omega)) (by omega)) rfl (fun _ _ => ?_)
      rintro ⟨a19, c19, rfl, rfl⟩
      refine g_pure (p_assign rfl) rfl ?_
      refine g_nil ?_
      refine g_qb ?_
      refine g_qt ?_
      refine g_region ?_
      first | refine g_pure (p_addi rfl rfl (by omega)) rfl ?_ | refine g_pure (p_add rfl rfl) rfl ?_
      refine g_pure (p_move rfl) rfl ?_
      refine g_nil ?_
      refine g_qn ?_
      rw [hm1]
      refine g_weak (A := OwnSl 3 1 a19 _ c19 ((DenseL (a.take t)).map encI ++ [.int .i64 u2])) (B := OwnSl 3 1 a19 (DenseL (a.take (t + 1))).length c19 ((DenseL (a.take (t + 1))).map encI)) (by repeat' (first | exact Take.here | apply Take.there)) (fun h hh => by rw [← hm2]; exact hh) ?_
      exact g_next (t + 1, a19, c19) (by (repeat (first | exact trivial | refine ⟨by rfl, ?_⟩)); done) (by repeat' (first | exact Cover.nil | exact Take.here | apply Cover.cons | apply Take.there)) (by dsimp only; omega) (by dsimp only; omega)
    · have hm := hn g
      rw [← hm]
      refine g_skip ?_
      refine g_qb ?_
      refine g_qt ?_
      refine g_region ?_
      first | refine g_pure (p_addi rfl rfl (by omega)) rfl ?_ | refine g_pure (p_add rfl rfl) rfl ?_
      refine g_pure (p_move rfl) rfl ?_
      refine g_nil ?_
      refine g_qn ?_
      exact g_next (t + 1, oa, oc) (by (repeat (first | exact trivial | refine ⟨by rfl, ?_⟩)); done) (by repeat' (first | exact Cover.nil | exact Take.here | apply Cover.cons | apply Take.there)) (by dsimp only; omega) (by dsimp only; omega)
  · obtain rfl : t = a.length := by omega
    rw [List.take_length]
    refine g_exit ?_
    refine g_qt_exit ?_
    refine g_qn_exit ?_
    refine g_qb_exit ?_
    refine g_qt ?_
    refine g_seq ?_
    refine g_region ?_
    refine g_pure (p_move rfl) rfl ?_
    refine g_pure (p_assign rfl) rfl ?_
    refine g_nil ?_
    refine g_qt ?_
    refine g_ret ?_
    exact g_post (rs := [.tmp 2]) rfl (.tmp rfl .nil) ⟨oa, oc, rfl, rfl⟩ (by repeat' (first | exact Cover.nil | exact Take.here | apply Cover.cons | apply Take.there))

theorem ddense_ok {ρ : Nat → Obj → Prop} {a : List Ce} {aa : Option Addr} {ac : Nat} (ha : RSl ρ 2 aa a.length (a.flatMap encC)) (hlen : a.length ≤ 1000000) :
    Con Try.prog ρ 31 #[.slice aa a.length ac] [] (IntP (DenseL a)) := by
  obtain ⟨_, bl, ol, kl, Tl, fl, hl⟩ := ha
  refine con_intro Try.func31 Try.call31 rfl Try.ntmps31 rfl (L := [(0, _)]) rfl fun w hh => ?_
  refine g_seq ?_
  refine g_region ?_
  refine g_pure (p_assign rfl) rfl ?_
  refine g_nil ?_
  refine g_qt ?_
  refine g_seq ?_
  refine g_region ?_
  refine g_pure (p_assign rfl) rfl ?_
  refine g_nil ?_
  refine g_qt ?_
  refine g_seq ?_
  refine g_seq ?_
  refine g_region ?_
  refine g_pure (p_assign rfl) rfl ?_
  refine g_nil ?_
  refine g_qt ?_
  refine g_block ?_
  refine g_ownnil (e := 3) (size := 1) ?_
  refine g_loop (fun q : Nat × Option Addr × Nat => [(0, .slice aa a.length ac), (3, .slice q.2.1 (DenseL (a.take q.1)).length q.2.2), (4, .int .i64 q.1)]) (fun q => [OwnSl 3 1 q.2.1 (DenseL (a.take q.1)).length q.2.2 ((DenseL (a.take q.1)).map encI)]) (fun q => q.1 ≤ a.length) (fun q => a.length - q.1) (0, none, 0) (Nat.zero_le _) (by (repeat (first | exact trivial | refine ⟨by rfl, ?_⟩)); done) (by repeat' (first | exact Cover.nil | exact Take.here | apply Cover.cons | apply Take.there)) ?_
  rintro ⟨t, oa, oc⟩ ht
  dsimp only at ht ⊢
  have hil := DenseL_len (a.take t)
  rw [List.length_take] at hil
  refine g_seq ?_
  refine g_seq ?_
  refine g_region ?_
  refine g_pure (p_move rfl) rfl ?_
  refine g_pure (p_move rfl) rfl ?_
  refine g_pure (p_len (by rfl) rfl) rfl ?_
  refine g_pure (p_lss rfl rfl) rfl ?_
  refine g_nil ?_
  refine g_qt ?_
  refine g_ifd rfl (fun q => ?_) (fun q => ?_)
  · have htl : t < a.length := by omega
    obtain ⟨l1, l2, l3⟩ := hl (by omega)
    obtain ⟨-, x1, x2⟩ := cell_at l3 htl
    have hy := DenseL_y htl
    have hn := DenseL_n htl
    have hat := at0_eq htl
    rw [← hat] at x1 x2
    generalize at0 a t = u at *
    obtain ⟨u1, u2⟩ := u
    have x1' : kl[ol + (t : Int).toNat * 2]? = some (.int .i64 u1) := x1
    have x2' : kl[ol + (t : Int).toNat * 2 + 1]? = some (.int .i64 u2) := x2
    refine g_skip ?_
    refine g_qt ?_
    refine g_seq ?_
    refine g_block ?_
    refine g_seq ?_
    refine g_region ?_
    refine g_pure (p_move rfl) rfl ?_
    refine g_pure (p_move rfl) rfl ?_
    refine g_pure (p_indexAddr rfl rfl (by omega) (fun _ => l1)) rfl ?_
    refine g_pure (p_fieldAddr rfl) rfl ?_
    refine g_pure (p_load (by rfl) rfl (Has.ro l2) x1') rfl ?_
    refine g_pure (p_eql rfl rfl) rfl ?_
    refine g_nil ?_
    refine g_qt ?_
    refine g_ifd rfl (fun g => ?_) (fun g => ?_)
    · have hm := hy g
      have hm1 : (DenseL (a.take t)).length + 1 = (DenseL (a.take (t + 1))).length := by rw [hm]; simp
      have hm2 : (DenseL (a.take t)).map encI ++ [.int .i64 u2] = (DenseL (a.take (t + 1))).map encI := by rw [hm]; simp [encI]
      refine g_region ?_
      refine g_pure (p_move rfl) rfl ?_
      refine g_pure (p_move rfl) rfl ?_
      refine g_pure (p_move rfl) rfl ?_
      refine g_pure (p_indexAddr rfl rfl (by omega) (fun _ => l1)) rfl ?_
      refine g_pure (p_fieldAddr rfl) rfl ?_
      refine g_pure (p_load (by rfl) rfl (Has.ro l2) x2') rfl ?_
      refine g_eff (e_bs (xs := [.tmp 22]) rfl rfl rfl (by rfl) (by rfl) rfl (by rfl)) rfl (fun _ _ => ?_)
      rintro ⟨b23, rfl, rfl⟩
      refine g_eff (e_appendO (by rfl) (by rfl) rfl rfl (by first | (apply Has.own; (repeat' (first | exact Take.here | apply Take.there)); done) | exact Has.ro (by assumption)) (by rfl) (by rfl) (by repeat' (first | exact Take.here | apply Take.there)) (by omega) (by first | omega | (dsimp only; omega) | (simp <;> omega)) (by omega)) rfl (fun _ _ => ?_)
      rintro ⟨a24, c24, rfl, rfl⟩
      refine g_pure (p_assign rfl) rfl ?_
      refine g_nil ?_
      refine g_qb ?_
      refine g_qt ?_
      refine g_region ?_
      refine g_pure (p_move rfl) rfl ?_
      first | refine g_pure (p_addi rfl rfl (by omega)) rfl ?_ | refine g_pure (p_add rfl rfl) rfl ?_
      refine g_pure (p_assign rfl) rfl ?_
      refine g_nil ?_
      refine g_qn ?_
      rw [hm1]
      refine g_weak (A := OwnSl 3 1 a24 _ c24 ((DenseL (a.take t)).map encI ++ [.int .i64 u2])) (B := OwnSl 3 1 a24 (DenseL (a.take (t + 1))).length c24 ((DenseL (a.take (t + 1))).map encI)) (by repeat' (first | exact Take.here | apply Take.there)) (fun h hh => by rw [← hm2]; exact hh) ?_
      exact g_next (t + 1, a24, c24) (by (repeat (first | exact trivial | refine ⟨by rfl, ?_⟩)); done) (by repeat' (first | exact Cover.nil | exact Take.here | apply Cover.cons | apply Take.there)) (by dsimp only; omega) (by dsimp only; omega)
    · have hm := hn g
      rw [← hm]
      refine g_skip ?_
      refine g_qb ?_
      refine g_qt ?_
      refine g_region ?_
      refine g_pure (p_move rfl) rfl ?_
      first | refine g_pure (p_addi rfl rfl (by omega)) rfl ?_ | refine g_pure (p_add rfl rfl) rfl ?_
      refine g_pure (p_assign rfl) rfl ?_
      refine g_nil ?_
      refine g_qn ?_
      exact g_next (t + 1, oa, oc) (by (repeat (first | exact trivial | refine ⟨by rfl, ?_⟩)); done) (by repeat' (first | exact Cover.nil | exact Take.here | apply Cover.cons | apply Take.there)) (by dsimp only; omega) (by dsimp only; omega)
  · obtain rfl : t = a.length := by omega
    rw [List.take_length]
    refine g_exit ?_
    refine g_qt_exit ?_
    refine g_qn_exit ?_
    refine g_qb_exit ?_
    refine g_qt ?_
    refine g_seq ?_
    refine g_region ?_
    refine g_pure (p_move rfl) rfl ?_
    refine g_pure (p_assign rfl) rfl ?_
    refine g_nil ?_
    refine g_qt ?_
    refine g_ret ?_
    exact g_post (rs := [.tmp 2]) rfl (.tmp rfl .nil) ⟨oa, oc, rfl, rfl⟩ (by repeat' (first | exact Cover.nil | exact Take.here | apply Cover.cons | apply Take.there))

theorem dwcheck_ok {ρ : Nat → Obj → Prop} {ha la : Option Addr} {hc lc : Nat} {hd lp : List Bool} (h : WdR ρ ha la hd lp) :
    Con Try.prog ρ 54 #[.agg #[.slice ha hd.length hc, .slice la lp.length lc]] [] (fun v H => v = .int .i64 (checkW hd lp) ∧ H = []) := by
  have h1 := h.l1
  have h2 := h.l2
  refine con_intro Try.func54 Try.call54 rfl Try.ntmps54 rfl (L := [(0, _)]) rfl fun w hh => ?_
  refine g_seq ?_
  refine g_region ?_
  refine g_eff (e_box rfl (by rfl)) rfl (fun _ _ => ?_)
  rintro ⟨b1, rfl, rfl⟩
  refine g_pure (p_assign rfl) rfl ?_
  refine g_nil ?_
  refine g_qt ?_
  refine g_seq ?_
  refine g_seq ?_
  refine g_region ?_
  refine g_pure (p_fieldAddr rfl) rfl ?_
  refine g_pure (p_load (by rfl) rfl (by first | (apply Has.own; (repeat' (first | exact Take.here | apply Take.there)); done) | exact Has.ro (by assumption)) (by first | rfl | assumption)) rfl ?_
  refine g_pure (p_len (by rfl) rfl) rfl ?_
  refine g_pure (p_eql rfl rfl) rfl ?_
  refine g_nil ?_
  refine g_qt ?_
  refine g_ifdL rfl (fun h1 => ?_) (fun h1 => ?_)
  · refine g_seq ?_
    refine g_region ?_
    refine g_pure (p_assign rfl) rfl ?_
    refine g_nil ?_
    refine g_qt ?_
    refine g_ret ?_
    refine g_qt_ret ?_
    exact g_post (Ho := []) (rs := [.tmp 2]) rfl (.tmp rfl .nil) ⟨by unfold checkW; (repeat' split) <;> first | rfl | (exfalso; omega), rfl⟩ (by repeat' (first | exact Cover.nil | exact Take.here | apply Cover.cons | apply Take.there))
  · refine g_skip ?_
    refine g_qt ?_
    refine g_seq ?_
    refine g_seq ?_
    refine g_region ?_
    refine g_pure (p_fieldAddr rfl) rfl ?_
    refine g_pure (p_load (by rfl) rfl (by first | (apply Has.own; (repeat' (first | exact Take.here | apply Take.there)); done) | exact Has.ro (by assumption)) (by first | rfl | assumption)) rfl ?_
    refine g_pure (p_len (by rfl) rfl) rfl ?_
    refine g_pure (p_fieldAddr rfl) rfl ?_
    refine g_pure (p_load (by rfl) rfl (by first | (apply Has.own; (repeat' (first | exact Take.here | apply Take.there)); done) | exact Has.ro (by assumption)) (by first | rfl | assumption)) rfl ?_
    refine g_pure (p_len (by rfl) rfl) rfl ?_
    first | refine g_pure (p_addi rfl rfl (by omega)) rfl ?_ | refine g_pure (p_add rfl rfl) rfl ?_
    refine g_pure (p_gtr rfl rfl) rfl ?_
    refine g_nil ?_
    refine g_qt ?_
    refine g_ifdL rfl (fun h2 => ?_) (fun h2 => ?_)
    · refine g_seq ?_
      refine g_region ?_
      refine g_pure (p_assign rfl) rfl ?_
      refine g_nil ?_
      refine g_qt ?_
      refine g_ret ?_
      refine g_qt_ret ?_
      exact g_post (Ho := []) (rs := [.tmp 2]) rfl (.tmp rfl .nil) ⟨by unfold checkW; (repeat' split) <;> first | rfl | (exfalso; omega), rfl⟩ (by repeat' (first | exact Cover.nil | exact Take.here | apply Cover.cons | apply Take.there))
    · refine g_skip ?_
      refine g_qt ?_
      refine g_seq ?_
      refine g_region ?_
      refine g_pure (p_assign rfl) rfl ?_
      refine g_nil ?_
      refine g_qt ?_
      refine g_ret ?_
      exact g_post (Ho := []) (rs := [.tmp 2]) rfl (.tmp rfl .nil) ⟨by unfold checkW; (repeat' split) <;> first | rfl | (exfalso; omega), rfl⟩ (by repeat' (first | exact Cover.nil | exact Take.here | apply Cover.cons | apply Take.there))
theorem dwletter_ok {ρ : Nat → Obj → Prop} {ha la : Option Addr} {hc lc : Nat} {hd lp : List Bool} (h : WdR ρ ha la hd lp) (h0 : 0 < lp.length) {k : Nat} (hk : k ≤ 1000000) :
    Con Try.prog ρ 64 #[.agg #[.slice ha hd.length hc, .slice la lp.length lc], .int .i64 k] [] (fun v H => v = .bool (letterF hd lp k) ∧ H = []) := by
  have h1 := h.l1
  have h2 := h.l2
  obtain ⟨_, bh, oh, kh, Th, fh, hhd⟩ := h.head
  obtain ⟨_, bl, ol, kl, Tl, fl, hl⟩ := h.loop
  obtain ⟨l1, l2, l3⟩ := hl h0
  refine con_intro Try.func64 Try.call64 rfl Try.ntmps64 rfl (L := [(0, _), (1, _)]) rfl fun w hh => ?_
  refine g_seq ?_
  refine g_region ?_
  refine g_eff (e_box rfl (by rfl)) rfl (fun _ _ => ?_)
  rintro ⟨b2, rfl, rfl⟩
  refine g_pure (p_assign rfl) rfl ?_
  refine g_nil ?_
  refine g_qt ?_
  refine g_seq ?_
  refine g_seq ?_
  refine g_region ?_
  refine g_pure (p_move rfl) rfl ?_
  refine g_pure (p_fieldAddr rfl) rfl ?_
  refine g_pure (p_load (by rfl) rfl (by first | (apply Has.own; (repeat' (first | exact Take.here | apply Take.there)); done) | exact Has.ro (by assumption)) (by first | rfl | assumption)) rfl ?_
  refine g_pure (p_len (by rfl) rfl) rfl ?_
  refine g_pure (p_lss rfl rfl) rfl ?_
  refine g_nil ?_
  refine g_qt ?_
  refine g_ifd rfl (fun q => ?_) (fun q => ?_)
  · obtain ⟨m1, m2, m3⟩ := hhd (by omega)
    have x1 : kh[oh + (k : Int).toNat * 1]? = some (.bool (hd.getD k false)) := flat2 m3 (getB (by omega)) (by simp)
    have e : letterF hd lp k = hd.getD k false := by unfold letterF; rw [if_pos (by omega)]
    refine g_seq ?_
    refine g_region ?_
    refine g_pure (p_fieldAddr rfl) rfl ?_
    refine g_pure (p_load (by rfl) rfl (by first | (apply Has.own; (repeat' (first | exact Take.here | apply Take.there)); done) | exact Has.ro (by assumption)) (by first | rfl | assumption)) rfl ?_
    refine g_pure (p_move rfl) rfl ?_
    refine g_pure (p_indexAddr rfl rfl (by omega) (fun _ => m1)) rfl ?_
    refine g_pure (p_load (by rfl) rfl (Has.ro m2) x1) rfl ?_
    refine g_pure (p_assign rfl) rfl ?_
    refine g_nil ?_
    refine g_qt ?_
    refine g_ret ?_
    refine g_qt_ret ?_
    exact g_post (Ho := []) (rs := [.tmp 4]) rfl (.tmp rfl .nil) ⟨by rw [e]; rfl, rfl⟩ (by repeat' (first | exact Cover.nil | exact Take.here | apply Cover.cons | apply Take.there))
  · have hmod := Nat.mod_lt (k - hd.length) h0
    have hi : ((k : Int) - (hd.length : Int)) % (lp.length : Int) = (((k - hd.length) % lp.length : Nat) : Int) := by
      rw [Int.natCast_emod, show ((k - hd.length : Nat) : Int) = (k : Int) - hd.length by omega]
    have x1 : kl[ol + (((k : Int) - (hd.length : Int)) % (lp.length : Int)).toNat * 1]? = some (.bool (lp.getD ((k - hd.length) % lp.length) false)) := flat2 l3 (getB hmod) (by rw [hi, Int.toNat_natCast])
    have e : letterF hd lp k = lp.getD ((k - hd.length) % lp.length) false := by unfold letterF; rw [if_neg (by omega)]
    refine g_skip ?_
    refine g_qt ?_
    refine g_seq ?_
    refine m_begin0 (.fl 0 0 (.fl 1 1 (.fl 2 0 (.fl 3 0 (.fl 4 1 (.fl 5 0 (.fl 6 0 (.fl 7 0 (.fl 8 1 (.fl 9 0 (.fl 10 0 (.fl 11 0 (.fl 12 1 (.fl 13 0 .done)))))))))))))) (by kernel_rfl) (by kernel_rfl) ?_
    refine m_float0 rfl (fun _ _ => p_fieldAddr rfl) rfl ?_
    refine m_float rfl (p_load (by rfl) rfl (by first | (apply Has.own; (repeat' (first | exact Take.here | apply Take.there)); done) | exact Has.ro (by assumption)) (by first | rfl | assumption)) rfl ?_
    refine m_float0 rfl (fun _ _ => p_move rfl) rfl ?_
    refine m_float0 rfl (fun _ _ => p_fieldAddr rfl) rfl ?_
    refine m_float rfl (p_load (by rfl) rfl (by first | (apply Has.own; (repeat' (first | exact Take.here | apply Take.there)); done) | exact Has.ro (by assumption)) (by first | rfl | assumption)) rfl ?_
    refine m_float0 rfl (fun _ _ => p_len (by rfl) rfl) rfl ?_
    first | refine m_float0 rfl (fun _ _ => p_subi rfl rfl (by omega)) rfl ?_ | refine m_float0 rfl (fun _ _ => p_sub rfl rfl) rfl ?_
    refine m_float0 rfl (fun _ _ => p_fieldAddr rfl) rfl ?_
    refine m_float rfl (p_load (by rfl) rfl (by first | (apply Has.own; (repeat' (first | exact Take.here | apply Take.there)); done) | exact Has.ro (by assumption)) (by first | rfl | assumption)) rfl ?_
    refine m_float0 rfl (fun _ _ => p_len (by rfl) rfl) rfl ?_
    refine m_float0 rfl (fun _ _ => p_remn rfl rfl (by omega) (by omega)) rfl ?_
    refine m_float0 rfl (fun _ _ => p_indexAddr rfl rfl (by rw [hi]; omega) (fun _ => l1)) rfl ?_
    refine m_float rfl (p_load (by rfl) rfl (Has.ro l2) x1) rfl ?_
    refine m_float0 rfl (fun _ _ => p_assign rfl) rfl ?_
    refine m_nil ?_
    refine g_qt ?_
    refine g_ret ?_
    exact g_post (Ho := []) (rs := [.tmp 4]) rfl (.tmp rfl .nil) ⟨by rw [e]; rfl, rfl⟩ (by repeat' (first | exact Cover.nil | exact Take.here | apply Cover.cons | apply Take.there))
theorem dwat_ok {ρ : Nat → Obj → Prop} {ha la : Option Addr} {hc lc : Nat} {hd lp : List Bool} (h : WdR ρ ha la hd lp) {k : Nat} (hk : k ≤ 1000000) :
    Con Try.prog ρ 55 #[.agg #[.slice ha hd.length hc, .slice la lp.length lc], .int .i64 k] [] (fun v H => v = .bool (decide (checkW hd lp = 0) && letterF hd lp k) ∧ H = []) := by
  refine con_intro Try.func55 Try.call55 rfl Try.ntmps55 rfl (L := [(0, _), (1, _)]) rfl fun w hh => ?_
  refine g_seq ?_
  refine g_region ?_
  refine g_eff (e_box rfl (by rfl)) rfl (fun _ _ => ?_)
  rintro ⟨b2, rfl, rfl⟩
  refine g_pure (p_assign rfl) rfl ?_
  refine g_nil ?_
  refine g_qt ?_
  refine g_seq ?_
  refine g_seq ?_
  refine g_region ?_
  first | refine g_pure (p_loadO (by rfl) rfl (by first | (apply Has.own; (repeat' (first | exact Take.here | apply Take.there)); done) | exact Has.ro (by assumption)) (by rfl)) rfl ?_ | refine g_pure (p_loadN (by rfl) rfl (by first | (apply Has.own; (repeat' (first | exact Take.here | apply Take.there)); done) | exact Has.ro (by assumption)) (by first | rfl | assumption)) rfl ?_
  refine g_call (Hin := []) (Hr := ?hr1) (R := ?rr1) rfl rfl rfl ?hin1 ?hc1 ?hk1
  case hin1 => repeat' (first | exact Cover.nil | exact Take.here | apply Cover.cons | apply Take.there)
  case hc1 => intro ρ' hρ hR; exact dwcheck_ok (h.mono hρ)
  rintro _ _ ⟨rfl, rfl⟩
  refine g_pure (p_neq rfl rfl) rfl ?_
  refine g_pure (p_move rfl) rfl ?_
  refine g_splitnd rfl rfl (fun h1 => ?_) (fun h1 => ?_)
  · refine g_no rfl rfl rfl rfl ?_
    refine g_no rfl rfl rfl rfl ?_
    first | refine g_pure (p_pickt rfl rfl) rfl ?_ | refine g_pure (p_pickf rfl rfl) rfl ?_
    refine g_nil ?_
    refine g_qt ?_
    refine g_ift rfl ?_
    refine g_seq ?_
    refine g_region ?_
    refine g_pure (p_assign rfl) rfl ?_
    refine g_nil ?_
    refine g_qt ?_
    refine g_ret ?_
    refine g_qt_ret ?_
    exact g_post (Ho := []) (rs := [.tmp 4]) rfl (.tmp rfl .nil) ⟨by first | (rw [decide_eq_true (by first | assumption | omega)]; rfl) | (rw [decide_eq_false (by first | assumption | omega)]; rfl) | (exfalso; omega), rfl⟩ (by repeat' (first | exact Cover.nil | exact Take.here | apply Cover.cons | apply Take.there))
  · refine g_yes rfl rfl ?_
    refine g_pure (p_move rfl) rfl ?_
    refine g_yes rfl rfl ?_
    refine g_pure (p_lss rfl rfl) rfl ?_
    first | refine g_pure (p_pickt rfl rfl) rfl ?_ | refine g_pure (p_pickf rfl rfl) rfl ?_
    refine g_nil ?_
    refine g_qt ?_
    refine g_ifdL rfl (fun h3 => ?_) (fun h3 => ?_)
    · refine g_seq ?_
      refine g_region ?_
      refine g_pure (p_assign rfl) rfl ?_
      refine g_nil ?_
      refine g_qt ?_
      refine g_ret ?_
      refine g_qt_ret ?_
      exact g_post (Ho := []) (rs := [.tmp 4]) rfl (.tmp rfl .nil) ⟨by first | (rw [decide_eq_true (by first | assumption | omega)]; rfl) | (rw [decide_eq_false (by first | assumption | omega)]; rfl) | (exfalso; omega), rfl⟩ (by repeat' (first | exact Cover.nil | exact Take.here | apply Cover.cons | apply Take.there))
    · refine g_skip ?_
      refine g_qt ?_
      refine g_seq ?_
      refine g_region ?_
      first | refine g_pure (p_loadO (by rfl) rfl (by first | (apply Has.own; (repeat' (first | exact Take.here | apply Take.there)); done) | exact Has.ro (by assumption)) (by rfl)) rfl ?_ | refine g_pure (p_loadN (by rfl) rfl (by first | (apply Has.own; (repeat' (first | exact Take.here | apply Take.there)); done) | exact Has.ro (by assumption)) (by first | rfl | assumption)) rfl ?_
      refine g_pure (p_move rfl) rfl ?_
      refine g_call (Hin := []) (Hr := ?hr2) (R := ?rr2) rfl rfl rfl ?hin2 ?hc2 ?hk2
      case hin2 => repeat' (first | exact Cover.nil | exact Take.here | apply Cover.cons | apply Take.there)
      case hc2 => intro ρ' hρ hR; exact dwletter_ok (h.mono hρ) (checkW_lp (by first | assumption | omega)).1 hk
      rintro _ _ ⟨rfl, rfl⟩
      refine g_pure (p_assign rfl) rfl ?_
      refine g_nil ?_
      refine g_qt ?_
      refine g_ret ?_
      exact g_post (Ho := []) (rs := [.tmp 4]) rfl (.tmp rfl .nil) ⟨by first | (rw [decide_eq_true (by first | assumption | omega)]; rfl) | (rw [decide_eq_false (by first | assumption | omega)]; rfl) | (exfalso; omega), rfl⟩ (by repeat' (first | exact Cover.nil | exact Take.here | apply Cover.cons | apply Take.there))
end Go.Proofs.Ytceecdjckhbncaa
