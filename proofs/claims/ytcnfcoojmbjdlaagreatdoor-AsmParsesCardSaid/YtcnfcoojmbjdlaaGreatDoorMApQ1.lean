/- Own texts, put together: Qn Qo Qp Qq Qr Qs Qt Qu Qv Qw Qx Qy Qz. Conditions: as told at each. -/
import Derived.Test.YtcnfcoojmbjdlaaGreatDoorMApQ0
import Derived.Lib.RowBridge
import Derived.Test.YtcnfcoojmbjdlaaGreatDoorYq
import Derived.Lib.AtoiErrMem
import Derived.Test.YtcnfcoojmbjdlaaGreatDoorZm
/- Chapter 26: the longest way through an image. Conditions: what the table of operations holds (OpsK). -/
namespace Go.Z.Asm
set_option maxRecDepth 8000
set_option linter.unusedVariables false
set_option linter.unusedSimpArgs false
set_option linter.unusedSectionVars false
open Go Go.Z Go.Lib
theorem longL_len (before : List Int) : ∀ (l : List Ins) (j : Nat), (longL before j l).length = l.length + 1
 | [], j => rfl
 | i :: l, j => by
  have := longL_len before l (j + 1)
  show (min _ (farN + 1) :: longL before (j + 1) l).length = _
  rw [List.length_cons, this]; rfl
def nextL (before L : List Int) (j : Nat) (i : Ins) : Int := if i.1 = 7 then L.getD (i.2.2.1 - j - 1).toNat 0 else if i.1 = 8 then max (L.headD 0) (L.getD (i.2.2.1 - j - 1).toNat 0) else if i.1 = 9 then L.headD 0 + before.getD i.2.1.toNat 0 else L.headD 0
theorem longL_cons (before : List Int) (j : Nat) (i : Ins) (l : List Ins) : longL before j (i :: l) = min (nextL before (longL before (j + 1) l) j i + 1) (farN + 1) :: longL before (j + 1) l := rfl
theorem getD_in {L : List Int} {hi : Int} (h : ∀ x ∈ L, 0 ≤ x ∧ x ≤ hi) (h0 : 0 ≤ hi) (n : Nat) : 0 ≤ L.getD n 0 ∧ L.getD n 0 ≤ hi := by
 rw [List.getD_eq_getElem?_getD]
 cases e : L[n]? with
 | none => exact ⟨Int.le_refl 0, h0⟩
 | some x => exact h x (List.mem_of_getElem? e)
theorem headD_in {L : List Int} {hi : Int} (h : ∀ x ∈ L, 0 ≤ x ∧ x ≤ hi) (h0 : 0 ≤ hi) : 0 ≤ L.headD 0 ∧ L.headD 0 ≤ hi := by
 cases L with
 | nil => exact ⟨Int.le_refl 0, h0⟩
 | cons x l => exact h x List.mem_cons_self
theorem nextL_in {before L : List Int} (hb : ∀ x ∈ before, 0 ≤ x ∧ x ≤ farN + 1) (hL : ∀ x ∈ L, 0 ≤ x ∧ x ≤ farN + 1) (j : Nat) (i : Ins) : 0 ≤ nextL before L j i ∧ nextL before L j i ≤ 2 * (farN + 1) := by
 have h0 : (0 : Int) ≤ farN + 1 := by decide
 have h1 := headD_in hL h0
 have h2 := getD_in hL h0 (i.2.2.1 - j - 1).toNat
 have h3 := getD_in hb h0 i.2.1.toNat
 unfold nextL
 split
 ·omega
 ·split
  ·omega
  ·split <;> omega
theorem longL_in {before : List Int} (hb : ∀ x ∈ before, 0 ≤ x ∧ x ≤ farN + 1) : ∀ (l : List Ins) (j : Nat), ∀ x ∈ longL before j l, 0 ≤ x ∧ x ≤ farN + 1
 | [], j, x, h => by
  have h' : x ∈ [(0 : Int)] := h
  rw [List.mem_singleton.1 h']; exact ⟨Int.le_refl 0, by decide⟩
 | i :: l, j, x, h => by
  rw [longL_cons] at h
  have ih := longL_in hb l (j + 1)
  rcases List.mem_cons.1 h with h | h
  ·have := nextL_in hb ih j i
   rw [h]; omega
  ·exact ih x h
theorem form_target {len at' : Int} {i : Ins} (h : formP len at' i = true) (h7 : i.1 = 7 ∨ i.1 = 8) : at' < i.2.2.1 ∧ i.2.2.1 ≤ len := by
 obtain ⟨op, A, B, C, D⟩ := i
 dsimp only at h7
 rcases h7 with rfl | rfl
 ·simp [formP, opRow, knownP, opT, fieldsV, formT] at h; dsimp only; omega
 ·simp [formP, opRow, knownP, opT, fieldsV, formT] at h; dsimp only; omega
theorem range_call {rts : List Rt} {k : Nat} {i : Ins} (h : rangesP rts k i = true) (h9 : i.1 = 9) : 0 ≤ i.2.1 ∧ i.2.1 < k := by
 obtain ⟨op, A, B, C, D⟩ := i
 dsimp only at h9
 subst h9
 simp [rangesP, opRow, knownP, opT, fieldsV, rangeT] at h; dsimp only; omega
theorem worstL_step (rts : List Rt) {k : Nat} (hk : k < rts.length) : worstL (rts.take (k + 1)) = worstL (rts.take k) ++ [(longL (worstL (rts.take k)) 0 rts[k].2.2.2.2.2).headD 0] := by
 unfold worstL
 rw [List.take_add_one, List.getElem?_eq_getElem hk, Option.toList_some, List.foldl_append]; rfl
theorem worstL_len (rts : List Rt) : ∀ k, k ≤ rts.length → (worstL (rts.take k)).length = k
 | 0, _ => rfl
 | k + 1, h => by rw [worstL_step rts h, List.length_append, worstL_len rts k (by omega)]; rfl
theorem worstL_in (rts : List Rt) : ∀ k, k ≤ rts.length → ∀ x ∈ worstL (rts.take k), 0 ≤ x ∧ x ≤ farN + 1
 | 0, _, x, h => by
  have h' : x ∈ ([] : List Int) := h
  cases h'
 | k + 1, h, x, hx => by
  rw [worstL_step rts h] at hx
  have ih := worstL_in rts k (by omega)
  rcases List.mem_append.1 hx with hx | hx
  ·exact ih x hx
  ·rw [List.mem_singleton.1 hx]
   exact headD_in (longL_in ih _ 0) (by decide)
def cellsM (m : Nat) (L : List Int) : List Value := List.replicate m (.int .i64 0) ++ L.map encI
theorem cellsM_at {m i : Nat} {L : List Int} (h : m ≤ i) (h2 : i - m < L.length) : (cellsM m L)[i]? = some (.int .i64 (L.getD (i - m) 0)) := by
 unfold cellsM
 rw [List.getElem?_append_right (by rw [List.length_replicate]; exact h), List.length_replicate, List.getElem?_map, List.getElem?_eq_getElem h2, List.getD_eq_getElem?_getD, List.getElem?_eq_getElem h2]; rfl
theorem cellsM_set {m : Nat} {L : List Int} (v : Int) : (cellsM (m + 1) L).set m (.int .i64 v) = cellsM m (v :: L) := by
 unfold cellsM
 rw [List.replicate_succ', List.append_assoc, List.set_append_right _ _ (by rw [List.length_replicate]; exact Nat.le_refl m), List.length_replicate, Nat.sub_self]; rfl
theorem cellsM_len (m : Nat) (L : List Int) : (cellsM m L).length = m + L.length := by simp [cellsM]
end Go.Z.Asm
namespace Go.Proofs.YtcnfcoojmbjdlaaGreatDoor
set_option maxRecDepth 8000
set_option linter.unusedVariables false
set_option linter.unusedSimpArgs false
set_option linter.unusedSectionVars false
open Go Go.Z Go.Z.Asm

theorem longest_ok {ρ : Nat → Obj → Prop} (nm : ByteArray) (ia oa na ca : Option Addr) (il ic ol oc nl nc cc : Nat) (rg : Int) (code : List Ins) (hc : RSl ρ 5 ca code.length (code.flatMap encIns)) (hcl : code.length ≤ 17592186044416)
  (ba : Option Addr) (bc : Nat) (before : List Int) (hb : RSl ρ 1 ba before.length (before.map encI)) (hbI : ∀ x ∈ before, 0 ≤ x ∧ x ≤ farN + 1)
  (hg : ∀ j (hj : j < code.length), (code[j].1 = 7 ∨ code[j].1 = 8 → (j : Int) < code[j].2.2.1 ∧ code[j].2.2.1 ≤ code.length) ∧ (code[j].1 = 9 → 0 ≤ code[j].2.1 ∧ code[j].2.1 < before.length)) :
  Con Tryz.prog ρ 41 #[.agg #[.string nm, .slice ia il ic, .slice oa ol oc, .int .i64 rg, .slice na nl nc, .slice ca code.length cc], .slice ba before.length bc] [] (fun v H => v = .int .i64 ((longL before 0 code).headD 0) ∧ H = []) := by
 have hfar : farN = 1099511627776 := rfl
 obtain ⟨bc', oc2, cs2, T2, fz2, hcr⟩ := RSl.row encIns_len hc
 obtain ⟨_, bb, ob, cb, Tb, fb, hbr⟩ := hb
 refine con_intro Tryz.func41 Tryz.call41 rfl Tryz.ntmps41 rfl (L := [(0, _), (1, _)]) rfl fun w hh => ?_
 refine g_seq <| g_region ?_
 refine g_eff (e_box rfl (by rfl)) rfl (fun _ _ => ?_)
 rintro ⟨b2, rfl, rfl⟩
 refine g_as ?_
 refine g_nil <| g_qt <| g_seq <| g_region ?_
 refine g_fa ?_
 refine g_ld ?_
 refine g_pure (p_len (by rfl) rfl) rfl ?_
 first | refine g_pure (p_addi rfl rfl (by omega)) rfl ?_ | refine g_pure (p_add rfl rfl) rfl ?_
 refine g_eff (e_make (by rfl) (by rfl) rfl rfl (by omega) (by first | omega | (dsimp only; omega)) (by omega)) rfl (fun _ _ => ?_)
 rintro ⟨b13, rfl, rfl⟩
 refine g_as ?_
 refine g_nil <| g_qt <| g_seq <| g_seq <| g_region ?_
 refine g_fa ?_
 refine g_ld ?_
 refine g_pure (p_len (by rfl) rfl) rfl ?_
 first | refine g_pure (p_subi rfl rfl (by omega)) rfl ?_ | refine g_pure (p_sub rfl rfl) rfl ?_
 refine g_as ?_
 refine g_nil <| g_qt <| g_block ?_
 have hz : List.replicate ((code.length : Int) + 1).toNat (Value.int IntKind.i64 0) = cellsM code.length (longL before code.length (code.drop code.length)) := by
  rw [List.drop_length, show ((code.length : Int) + 1).toNat = code.length + 1 by omega, List.replicate_succ']; rfl
 rw [hz]
 refine g_loop (fun q : Nat × Int => [(1, .slice ba before.length bc), (2, .pointer (some ⟨b2, 0, none⟩)), (5, .slice (some ⟨b13, 0, none⟩) ((code.length : Int) + 1).toNat ((code.length : Int) + 1).toNat), (6, .int .i64 q.2)])
  (fun q => [Blk b2 (.cells [.string nm, .slice ia il ic, .slice oa ol oc, .int .i64 rg, .slice na nl nc, .slice ca code.length cc].toArray 45 (0, 0)), Blk b13 (.cells (cellsM q.1 (longL before q.1 (code.drop q.1))).toArray 3 (0, 0))])
  (fun q => q.1 ≤ code.length ∧ q.2 = (q.1 : Int) - 1) (fun q => q.1) (code.length, (code.length : Int) - 1) ⟨Nat.le_refl _, rfl⟩ (by (repeat (first | exact trivial | refine ⟨by rfl, ?_⟩)); done) (by repeat' (first | exact Cover.nil | exact Take.here | apply Cover.cons | apply Take.there)) ?_
 rintro ⟨m, z⟩ ⟨hm, hz2⟩
 dsimp only at hm hz2 ⊢
 refine g_seq <| g_seq <| g_region ?_
 refine g_mv ?_
 refine g_pure (p_geq rfl rfl) rfl ?_
 refine g_nil <| g_qt ?_
 refine g_ifd rfl (fun q => ?_) (fun q => ?_)
 ·obtain ⟨j, rfl⟩ : ∃ j, m = j + 1 := ⟨m - 1, by omega⟩
  have hzj : z = (j : Int) := by omega
  subst hzj
  have hjl : j < code.length := by omega
  obtain ⟨c1, c2, c3⟩ := hcr (by omega)
  have c4 := (c3 j hjl).1 (by decide)
  obtain ⟨g1, g2⟩ := hg j hjl
  have hLl := longL_len before (code.drop (j + 1)) (j + 1)
  rw [List.length_drop] at hLl
  have hLi := longL_in hbI (code.drop (j + 1)) (j + 1)
  have hcons : longL before j (code.drop j) = min (nextL before (longL before (j + 1) (code.drop (j + 1))) j code[j] + 1) 1099511627777 :: longL before (j + 1) (code.drop (j + 1)) := by
   rw [List.drop_eq_getElem_cons hjl, longL_cons]; rfl
  generalize code[j] = ii at c4 g1 g2 hcons
  generalize longL before (j + 1) (code.drop (j + 1)) = L at hLl hLi hcons ⊢
  have hnx := nextL_in hbI hLi j ii
  have hset : ∀ v : Int, (cellsM (j + 1) L).set (0 + (j : Int).toNat * 1) (.int .i64 v) = cellsM j (v :: L) := fun v => by rw [show 0 + (j : Int).toNat * 1 = j by omega]; exact cellsM_set v
  have hcl2 := cellsM_len (j + 1) L
  have hd0 : L.getD 0 0 = L.headD 0 := by cases L <;> rfl
  have hh1 := headD_in hLi (by decide)
  have n7 : ii.1 = 7 → nextL before L j ii = L.getD (ii.2.2.1 - j - 1).toNat 0 := fun h => by unfold nextL; rw [if_pos h]
  have n8 : ¬ ii.1 = 7 → ii.1 = 8 → nextL before L j ii = max (L.headD 0) (L.getD (ii.2.2.1 - j - 1).toNat 0) := fun h7 h => by unfold nextL; rw [if_neg h7, if_pos h]
  have n9 : ¬ ii.1 = 7 → ¬ ii.1 = 8 → ii.1 = 9 → nextL before L j ii = L.headD 0 + before.getD ii.2.1.toNat 0 := fun h7 h8 h => by unfold nextL; rw [if_neg h7, if_neg h8, if_pos h]
  have nE : ¬ ii.1 = 7 → ¬ ii.1 = 8 → ¬ ii.1 = 9 → nextL before L j ii = L.headD 0 := fun h7 h8 h => by unfold nextL; rw [if_neg h7, if_neg h8, if_neg h]
  have hB : ii.1 = 7 ∨ ii.1 = 8 → (cellsM (j + 1) L)[0 + ii.2.2.1.toNat * 1]? = some (.int .i64 (L.getD (ii.2.2.1 - j - 1).toNat 0)) := fun h => by
   have := g1 h
   rw [cellsM_at (m := j + 1) (i := 0 + ii.2.2.1.toNat * 1) (by omega) (by omega)]
   congr 3; omega
  have hA : ii.1 = 9 → cb[ob + ii.2.1.toNat * 1]? = some (.int .i64 (before.getD ii.2.1.toNat 0)) := fun h => by
   have hlt := g2 h
   rw [Nat.mul_one]
   refine (hbr (by omega)).2.2 _ _ ?_
   rw [List.getElem?_map, List.getElem?_eq_getElem (by omega), List.getD_eq_getElem?_getD, List.getElem?_eq_getElem (by omega)]; rfl
  have h31 : (cellsM (j + 1) L)[0 + ((j : Int) + 1).toNat * 1]? = some (.int .i64 (L.headD 0)) := by
   rw [cellsM_at (m := j + 1) (i := 0 + ((j : Int) + 1).toNat * 1) (by omega) (by omega), ← hd0]; congr 3; omega
  have hbb := fun h : ii.1 = 9 => getD_in hbI (by decide) ii.2.1.toNat
  refine g_skip <| g_qt <| g_seq <| g_block <| g_seq <| g_region ?_
  refine g_fa ?_
  refine g_ld ?_
  refine g_mv ?_
  refine g_pure (p_indexAddr rfl rfl (by omega) (fun _ => c1)) rfl ?_
  refine g_pure (p_loadN (by rfl) rfl (Has.ro c2) (by rw [Int.toNat_natCast]; exact c4)) rfl ?_
  refine g_eff (e_alloc (by rfl)) rfl (fun _ _ => ?_)
  rintro ⟨b7, rfl, rfl⟩
  first | refine g_eff0 (e_storeO rfl rfl (by rfl) (by rfl) (by rfl) (by repeat' (first | exact Take.here | apply Take.there)) (by rfl)) (fun _ _ => ?_) | refine g_eff0 (e_storeN rfl rfl (by rfl) (by rfl) (by rfl) (by repeat' (first | exact Take.here | apply Take.there)) (by simp)) (fun _ _ => ?_)
  rintro rfl
  refine g_nil <| g_qt <| g_seq <| g_region ?_
  refine g_mv ?_
  refine g_mv ?_
  first | refine g_pure (p_addi rfl rfl (by omega)) rfl ?_ | refine g_pure (p_add rfl rfl) rfl ?_
  refine g_pure (p_indexAddr rfl rfl (by omega) (fun _ => rfl)) rfl ?_
  refine g_pure (p_load (v := .int .i64 (L.headD 0)) (by rfl) rfl (Has.own (by repeat' (first | exact Take.here | apply Take.there))) h31) rfl ?_
  refine g_as ?_
  refine g_nil <| g_qt <| g_seq <| g_seq <| g_region ?_
  refine g_fa ?_
  refine g_ld ?_
  refine g_nil <| g_qt <| g_block <| g_seq <| g_region ?_
  refine g_pure (p_eql rfl rfl) rfl ?_
  refine g_as ?_
  refine g_nil <| g_qt ?_
  refine g_ifdL rfl (fun h1 => ?_) (fun h1 => ?_)
  ·refine g_region ?_
   refine g_mv ?_
   refine g_fa ?_
   refine g_ld ?_
   refine g_pure (p_indexAddr rfl rfl (by have := g1 (.inl (by assumption)); omega) (fun _ => rfl)) rfl ?_
   refine g_pure (p_load (by rfl) rfl (Has.own (by repeat' (first | exact Take.here | apply Take.there))) (hB (.inl (by assumption)))) rfl ?_
   refine g_as ?_
   refine g_nil <| g_qb <| g_qt <| g_region ?_
   refine g_mv ?_
   refine g_mv ?_
   refine g_mv ?_
   refine g_pure (p_addi rfl rfl (by have hx7 := n7; have hx8 := n8; have hx9 := n9; have hxE := nE; first | (rw [n7 (by assumption)] at hnx; omega) | (rw [n8 (by assumption) (by assumption)] at hnx; omega) | (rw [n9 (by assumption) (by assumption) (by assumption)] at hnx; omega) | omega)) rfl ?_
   refine g_pure (p_min rfl rfl) rfl ?_
   refine g_pure (p_indexAddr rfl rfl (by omega) (fun _ => rfl)) rfl ?_
   first | refine g_eff0 (e_storeO rfl rfl (by rfl) (by rfl) (by rfl) (by repeat' (first | exact Take.here | apply Take.there)) (by rfl)) (fun _ _ => ?_) | refine g_eff0 (e_store1 (by rfl) rfl rfl rfl (by repeat' (first | exact Take.here | apply Take.there)) (by first | decide | (simp <;> omega) | omega)) (fun _ _ => ?_)
   rintro rfl
   refine g_nil <| g_qb <| g_qt <| g_region ?_
   refine g_mv ?_
   first | refine g_pure (p_subi rfl rfl (by omega)) rfl ?_ | refine g_pure (p_sub rfl rfl) rfl ?_
   refine g_as ?_
   refine g_nil <| g_qn ?_
   first | (rw [← n7 (by assumption)]; rw [hset, ← hcons]; exact g_nextA (j, (j : Int) - 1) ⟨by dsimp only; omega, rfl⟩ (by dsimp only; omega)) | (rw [← n8 (by assumption) (by assumption)]; rw [hset, ← hcons]; exact g_nextA (j, (j : Int) - 1) ⟨by dsimp only; omega, rfl⟩ (by dsimp only; omega)) | (rw [← n9 (by assumption) (by assumption) (by assumption)]; rw [hset, ← hcons]; exact g_nextA (j, (j : Int) - 1) ⟨by dsimp only; omega, rfl⟩ (by dsimp only; omega)) | (have e9 := nE (by assumption) (by assumption) (by assumption); rw [hset, ← e9, ← hcons]; exact g_nextA (j, (j : Int) - 1) ⟨by dsimp only; omega, rfl⟩ (by dsimp only; omega))
  ·refine g_seq <| g_region ?_
   refine g_pure (p_eql rfl rfl) rfl ?_
   refine g_as ?_
   refine g_nil <| g_qt ?_
   refine g_ifdL rfl (fun h2 => ?_) (fun h2 => ?_)
   ·refine g_region ?_
    refine g_mv ?_
    refine g_mv ?_
    refine g_fa ?_
    refine g_ld ?_
    refine g_pure (p_indexAddr rfl rfl (by have := g1 (.inr (by assumption)); omega) (fun _ => rfl)) rfl ?_
    refine g_pure (p_load (by rfl) rfl (Has.own (by repeat' (first | exact Take.here | apply Take.there))) (hB (.inr (by assumption)))) rfl ?_
    refine g_pure (p_max rfl rfl) rfl ?_
    refine g_as ?_
    refine g_nil <| g_qb <| g_qt <| g_region ?_
    refine g_mv ?_
    refine g_mv ?_
    refine g_mv ?_
    refine g_pure (p_addi rfl rfl (by have hx7 := n7; have hx8 := n8; have hx9 := n9; have hxE := nE; first | (rw [n7 (by assumption)] at hnx; omega) | (rw [n8 (by assumption) (by assumption)] at hnx; omega) | (rw [n9 (by assumption) (by assumption) (by assumption)] at hnx; omega) | omega)) rfl ?_
    refine g_pure (p_min rfl rfl) rfl ?_
    refine g_pure (p_indexAddr rfl rfl (by omega) (fun _ => rfl)) rfl ?_
    first | refine g_eff0 (e_storeO rfl rfl (by rfl) (by rfl) (by rfl) (by repeat' (first | exact Take.here | apply Take.there)) (by rfl)) (fun _ _ => ?_) | refine g_eff0 (e_store1 (by rfl) rfl rfl rfl (by repeat' (first | exact Take.here | apply Take.there)) (by first | decide | (simp <;> omega) | omega)) (fun _ _ => ?_)
    rintro rfl
    refine g_nil <| g_qb <| g_qt <| g_region ?_
    refine g_mv ?_
    first | refine g_pure (p_subi rfl rfl (by omega)) rfl ?_ | refine g_pure (p_sub rfl rfl) rfl ?_
    refine g_as ?_
    refine g_nil <| g_qn ?_
    first | (rw [← n7 (by assumption)]; rw [hset, ← hcons]; exact g_nextA (j, (j : Int) - 1) ⟨by dsimp only; omega, rfl⟩ (by dsimp only; omega)) | (rw [← n8 (by assumption) (by assumption)]; rw [hset, ← hcons]; exact g_nextA (j, (j : Int) - 1) ⟨by dsimp only; omega, rfl⟩ (by dsimp only; omega)) | (rw [← n9 (by assumption) (by assumption) (by assumption)]; rw [hset, ← hcons]; exact g_nextA (j, (j : Int) - 1) ⟨by dsimp only; omega, rfl⟩ (by dsimp only; omega)) | (have e9 := nE (by assumption) (by assumption) (by assumption); rw [hset, ← e9, ← hcons]; exact g_nextA (j, (j : Int) - 1) ⟨by dsimp only; omega, rfl⟩ (by dsimp only; omega))
   ·refine g_seq <| g_region ?_
    refine g_pure (p_eql rfl rfl) rfl ?_
    refine g_as ?_
    refine g_nil <| g_qt ?_
    refine g_ifdL rfl (fun h3 => ?_) (fun h3 => ?_)
    ·refine g_region ?_
     refine g_mv ?_
     refine g_mv ?_
     refine g_fa ?_
     refine g_ld ?_
     refine g_pure (p_indexAddr rfl rfl (by have := g2 (by assumption); omega) (fun _ => (hbr (by have := g2 (by assumption); omega)).1)) rfl ?_
     refine g_pure (p_load (by rfl) rfl (Has.ro (hbr (by have := g2 (by assumption); omega)).2.1) (hA (by assumption))) rfl ?_
     refine g_pure (p_addi rfl rfl (by have := hbb (by assumption); omega)) rfl ?_
     refine g_as ?_
     refine g_nil <| g_qb <| g_qt <| g_region ?_
     refine g_mv ?_
     refine g_mv ?_
     refine g_mv ?_
     refine g_pure (p_addi rfl rfl (by have hx7 := n7; have hx8 := n8; have hx9 := n9; have hxE := nE; first | (rw [n7 (by assumption)] at hnx; omega) | (rw [n8 (by assumption) (by assumption)] at hnx; omega) | (rw [n9 (by assumption) (by assumption) (by assumption)] at hnx; omega) | omega)) rfl ?_
     refine g_pure (p_min rfl rfl) rfl ?_
     refine g_pure (p_indexAddr rfl rfl (by omega) (fun _ => rfl)) rfl ?_
     first | refine g_eff0 (e_storeO rfl rfl (by rfl) (by rfl) (by rfl) (by repeat' (first | exact Take.here | apply Take.there)) (by rfl)) (fun _ _ => ?_) | refine g_eff0 (e_store1 (by rfl) rfl rfl rfl (by repeat' (first | exact Take.here | apply Take.there)) (by first | decide | (simp <;> omega) | omega)) (fun _ _ => ?_)
     rintro rfl
     refine g_nil <| g_qb <| g_qt <| g_region ?_
     refine g_mv ?_
     first | refine g_pure (p_subi rfl rfl (by omega)) rfl ?_ | refine g_pure (p_sub rfl rfl) rfl ?_
     refine g_as ?_
     refine g_nil <| g_qn ?_
     first | (rw [← n7 (by assumption)]; rw [hset, ← hcons]; exact g_nextA (j, (j : Int) - 1) ⟨by dsimp only; omega, rfl⟩ (by dsimp only; omega)) | (rw [← n8 (by assumption) (by assumption)]; rw [hset, ← hcons]; exact g_nextA (j, (j : Int) - 1) ⟨by dsimp only; omega, rfl⟩ (by dsimp only; omega)) | (rw [← n9 (by assumption) (by assumption) (by assumption)]; rw [hset, ← hcons]; exact g_nextA (j, (j : Int) - 1) ⟨by dsimp only; omega, rfl⟩ (by dsimp only; omega)) | (have e9 := nE (by assumption) (by assumption) (by assumption); rw [hset, ← e9, ← hcons]; exact g_nextA (j, (j : Int) - 1) ⟨by dsimp only; omega, rfl⟩ (by dsimp only; omega))
    ·refine g_skip <| g_qb <| g_qt <| g_region ?_
     refine g_mv ?_
     refine g_mv ?_
     refine g_mv ?_
     refine g_pure (p_addi rfl rfl (by have hx7 := n7; have hx8 := n8; have hx9 := n9; have hxE := nE; first | (rw [n7 (by assumption)] at hnx; omega) | (rw [n8 (by assumption) (by assumption)] at hnx; omega) | (rw [n9 (by assumption) (by assumption) (by assumption)] at hnx; omega) | omega)) rfl ?_
     refine g_pure (p_min rfl rfl) rfl ?_
     refine g_pure (p_indexAddr rfl rfl (by omega) (fun _ => rfl)) rfl ?_
     first | refine g_eff0 (e_storeO rfl rfl (by rfl) (by rfl) (by rfl) (by repeat' (first | exact Take.here | apply Take.there)) (by rfl)) (fun _ _ => ?_) | refine g_eff0 (e_store1 (by rfl) rfl rfl rfl (by repeat' (first | exact Take.here | apply Take.there)) (by first | decide | (simp <;> omega) | omega)) (fun _ _ => ?_)
     rintro rfl
     refine g_nil <| g_qb <| g_qt <| g_region ?_
     refine g_mv ?_
     first | refine g_pure (p_subi rfl rfl (by omega)) rfl ?_ | refine g_pure (p_sub rfl rfl) rfl ?_
     refine g_as ?_
     refine g_nil <| g_qn ?_
     first | (rw [← n7 (by assumption)]; rw [hset, ← hcons]; exact g_nextA (j, (j : Int) - 1) ⟨by dsimp only; omega, rfl⟩ (by dsimp only; omega)) | (rw [← n8 (by assumption) (by assumption)]; rw [hset, ← hcons]; exact g_nextA (j, (j : Int) - 1) ⟨by dsimp only; omega, rfl⟩ (by dsimp only; omega)) | (rw [← n9 (by assumption) (by assumption) (by assumption)]; rw [hset, ← hcons]; exact g_nextA (j, (j : Int) - 1) ⟨by dsimp only; omega, rfl⟩ (by dsimp only; omega)) | (have e9 := nE (by assumption) (by assumption) (by assumption); rw [hset, ← e9, ← hcons]; exact g_nextA (j, (j : Int) - 1) ⟨by dsimp only; omega, rfl⟩ (by dsimp only; omega))
 ·have hm0 : m = 0 := by omega
  subst hm0
  have hhd : (cellsM 0 (longL before 0 (code.drop 0)))[0 + (0 : Int).toNat * 1]? = some (.int .i64 ((longL before 0 code).headD 0)) := by
   rw [List.drop_zero, cellsM_at (by omega) (by rw [longL_len]; omega)]
   have hd0 : (longL before 0 code).getD 0 0 = (longL before 0 code).headD 0 := by cases longL before 0 code <;> rfl
   rw [← hd0]; rfl
  refine g_exit <| g_qt_exit <| g_qn_exit <| g_qb_exit <| g_qt <| g_seq <| g_region ?_
  refine g_mv ?_
  refine g_pure (p_indexAddr rfl rfl (by omega) (fun _ => rfl)) rfl ?_
  refine g_pure (p_load (by rfl) rfl (Has.own (by repeat' (first | exact Take.here | apply Take.there))) hhd) rfl ?_
  refine g_as ?_
  refine g_nil <| g_qt <| g_ret ?_
  exact g_postA (rs := [.tmp 4]) rfl (.tmp rfl .nil) ⟨rfl, rfl⟩
end Go.Proofs.YtcnfcoojmbjdlaaGreatDoor
/- Chapter 26: the longest way through an image, all routines. Conditions: what the table of operations holds (OpsK). -/
namespace Go.Proofs.YtcnfcoojmbjdlaaGreatDoor
set_option maxRecDepth 8000
set_option linter.unusedVariables false
set_option linter.unusedSimpArgs false
set_option linter.unusedSectionVars false
open Go Go.Z Go.Z.Asm

theorem good_code {im : Im} {k : Nat} {r : Rt} (hg : RtGood im k r) (hw : ∀ (j : Nat) (hj : j < r.2.2.2.2.2.length), True) : ∀ j (hj : j < r.2.2.2.2.2.length), (r.2.2.2.2.2[j].1 = 7 ∨ r.2.2.2.2.2[j].1 = 8 → (j : Int) < r.2.2.2.2.2[j].2.2.1 ∧ r.2.2.2.2.2[j].2.2.1 ≤ r.2.2.2.2.2.length) ∧ (r.2.2.2.2.2[j].1 = 9 → 0 ≤ r.2.2.2.2.2[j].2.1 ∧ r.2.2.2.2.2[j].2.1 < k) := fun j hj => by
 obtain ⟨h1, h2⟩ := codeE_zero im.2 k _ _ 0 hg.co j hj
 rw [Nat.zero_add] at h1
 exact ⟨fun h => form_target h1 h, fun h => range_call h2 h⟩
theorem worstA_ok {ρ : Nat → Obj → Prop} (hO : OpsK ρ) {ea ra : Option Addr} {ec rc : Nat} {im : Im} (h : ImI ρ ea ra im) :
  Con Tryz.prog ρ 21 #[.agg #[.slice ea im.1.length ec, .slice ra im.2.length rc]] [] (fun v H => v = .tuple #[.int .i64 (worstP im).1, .int .i64 (worstP im).2] ∧ H = []) := by
 have hrl := h.rl
 refine con_intro Tryz.func21 Tryz.call21 rfl Tryz.ntmps21 rfl (L := [(0, _)]) rfl fun w hh => ?_
 refine g_seq <| g_region ?_
 refine g_eff (e_box rfl (by rfl)) rfl (fun _ _ => ?_)
 rintro ⟨b1, rfl, rfl⟩
 refine g_as ?_
 refine g_as ?_
 refine g_nil <| g_qt <| g_seq <| g_seq <| g_region ?_
 first | refine g_pure (p_loadO (by rfl) rfl (by first | (apply Has.own; (repeat' (first | exact Take.here | apply Take.there)); done) | exact Has.ro (by assumption)) (by rfl)) rfl ?_ | refine g_pure (p_loadN (by rfl) rfl (by first | (apply Has.own; (repeat' (first | exact Take.here | apply Take.there)); done) | exact Has.ro (by assumption)) (by first | rfl | assumption)) rfl ?_
 refine g_call (Hin := []) (Hr := ?hr1) (R := ?rr1) rfl rfl rfl ?hin1 ?hc1 ?hk1
 case hin1 => repeat' (first | exact Cover.nil | exact Take.here | apply Cover.cons | apply Take.there)
 case hc1 => intro ρ' hρ hR; exact checkA_ok (ec := ec) (rc := rc) (hO.mono hρ) (h.mono hρ)
 rintro _ _ ⟨rfl, rfl⟩
 refine g_as ?_
 refine g_nil <| g_qt <| g_seq <| g_region ?_
 refine g_mv ?_
 refine g_pure (p_neq rfl rfl) rfl ?_
 refine g_nil <| g_qt ?_
 refine g_ifnd rfl (fun h1 => ?_) (fun h1 => ?_)
 ·refine g_seq <| g_region ?_
  refine g_mv ?_
  refine g_as ?_
  refine g_as ?_
  refine g_nil <| g_qt <| g_ret <| g_qt_ret ?_
  exact g_postA (rs := [.tmp 2, .tmp 3]) rfl (.tmp rfl (.tmp rfl .nil)) ⟨by unfold worstP; rw [if_neg h1]; rfl, rfl⟩
 ·have hE : checkP im = 0 := by omega
  have hW : worstP im = if farN < (worstL im.2).getLastD 0 then (0, 3) else ((worstL im.2).getLastD 0, 0) := by unfold worstP; rw [if_pos hE]
  rw [hW]
  obtain ⟨g1, g2, g3, g4⟩ := checkP_zero hE
  refine g_skip <| g_qt <| g_seq <| g_region ?_
  refine g_as ?_
  refine g_nil <| g_qt <| g_seq <| g_seq <| g_region ?_
  refine g_fa ?_
  refine g_ld ?_
  refine g_pure (p_len (by rfl) rfl) rfl ?_
  refine g_mv ?_
  refine g_nil <| g_qt <| g_block ?_
  refine g_ownnil (e := 3) (size := 1) ?_
  refine g_loop (fun q : Nat × Option Addr × Nat => [(5, .slice q.2.1 (worstL (im.2.take q.1)).length q.2.2), (15, .slice ra im.2.length rc), (16, .int .i64 im.2.length), (17, .int .i64 q.1)])
   (fun q => [OwnSl 3 1 q.2.1 (worstL (im.2.take q.1)).length q.2.2 ((worstL (im.2.take q.1)).map encI)]) (fun q => q.1 ≤ im.2.length) (fun q => im.2.length - q.1) (0, none, 0) (Nat.zero_le _) (by (repeat (first | exact trivial | refine ⟨by rfl, ?_⟩)); done) (by repeat' (first | exact Cover.nil | exact Take.here | apply Cover.cons | apply Take.there)) ?_
  rintro ⟨k, oa, oc⟩ hk1
  dsimp only at hk1 ⊢
  refine g_seq <| g_region ?_
  refine g_pure (p_lss rfl rfl) rfl ?_
  refine g_nil <| g_qt <| g_seq ?_
  refine g_ifd rfl (fun q => ?_) (fun q => ?_)
  ·have hkl : k < im.2.length := by omega
   have hst := worstL_step im.2 hkl
   have hwl := worstL_len im.2 k hk1
   have hwi := worstL_in im.2 k hk1
   obtain ⟨b, off, cs, T, fz, r1, r2, r3⟩ := h.rs (by omega)
   obtain ⟨row, q1, q2, q3⟩ := r3 k hkl
   have hok := h.ok im.2[k] (List.getElem_mem hkl)
   have hgd := g4 k hkl
   generalize im.2[k] = x0 at q1 hok hgd hst
   generalize worstL (im.2.take k) = W at hst hwl hwi ⊢
   have hcode := good_code hgd (fun _ _ => trivial)
   obtain ⟨ia, ic, oa', oc', na, nc, ca, cc, e0, hi, ho, hn, hc⟩ := q1
   subst e0
   have hcl := hgd.cl
   refine g_skip <| g_qt <| g_seq <| g_block <| g_seq <| g_region ?_
   refine g_pure (p_indexAddr rfl rfl (by omega) (fun _ => r1)) rfl ?_
   refine g_pure (p_loadN (by rfl) rfl (Has.ro r2) (by rw [Int.toNat_natCast]; exact q2)) rfl ?_
   refine g_eff (e_alloc (by rfl)) rfl (fun _ _ => ?_)
   rintro ⟨b7, rfl, rfl⟩
   first | refine g_eff0 (e_storeO rfl rfl (by rfl) (by rfl) (by rfl) (by repeat' (first | exact Take.here | apply Take.there)) (by rfl)) (fun _ _ => ?_) | refine g_eff0 (e_storeN rfl rfl (by rfl) (by rfl) (by rfl) (by repeat' (first | exact Take.here | apply Take.there)) (by simp)) (fun _ _ => ?_)
   rintro rfl
   refine g_nil <| g_qt <| g_region ?_
   refine g_mv ?_
   first | refine g_pure (p_loadO (by rfl) rfl (by first | (apply Has.own; (repeat' (first | exact Take.here | apply Take.there)); done) | exact Has.ro (by assumption)) (by rfl)) rfl ?_ | refine g_pure (p_loadN (by rfl) rfl (by first | (apply Has.own; (repeat' (first | exact Take.here | apply Take.there)); done) | exact Has.ro (by assumption)) (by first | rfl | assumption)) rfl ?_
   refine g_mv ?_
   refine g_call (Hin := []) (Hr := ?hr2) (R := ?rr2) rfl rfl rfl ?hin2 ?hc2 ?hk2
   case hin2 => repeat' (first | exact Cover.nil | exact Take.here | apply Cover.cons | apply Take.there)
   case hc2 => intro ρ' hρ hR; exact longest_ok (strB x0.1) ia oa' na ca x0.2.1.length ic x0.2.2.1.length oc' x0.2.2.2.2.1.length nc cc x0.2.2.2.1 x0.2.2.2.2.2 (hc.mono hρ) (by omega) oa oc W (RSl.of_own (Take.ro (A := OwnSl 3 1 oa W.length oc (W.map encI)) (by repeat' (first | exact Take.here | apply Take.there)) hR)) hwi (fun j hj => by have := hcode j hj; rw [hwl]; exact this)
   rintro _ _ ⟨rfl, rfl⟩
   refine g_eff (e_bs (xs := [.tmp 24]) rfl rfl rfl (by rfl) (by rfl) rfl (by rfl)) rfl (fun _ _ => ?_)
   rintro ⟨b25, rfl, rfl⟩
   refine g_eff (e_appendO (by rfl) (by rfl) rfl rfl (by first | (apply Has.own; (repeat' (first | exact Take.here | apply Take.there)); done) | exact Has.ro (by assumption)) (by rfl) (by rfl) (by repeat' (first | exact Take.here | apply Take.there)) (by omega) (by first | omega | (dsimp only; omega) | (simp <;> omega)) (by omega)) rfl (fun _ _ => ?_)
   rintro ⟨a26, c26, rfl, rfl⟩
   refine g_as ?_
   refine g_nil <| g_qb <| g_qt <| g_region ?_
   first | refine g_pure (p_addi rfl rfl (by omega)) rfl ?_ | refine g_pure (p_add rfl rfl) rfl ?_
   refine g_mv ?_
   refine g_nil <| g_qn ?_
   rw [show W.map encI ++ [Value.int IntKind.i64 ((longL W 0 x0.2.2.2.2.2).headD 0)] = (worstL (im.2.take (k + 1))).map encI by rw [hst, List.map_append]; rfl, show W.length + 1 = (worstL (im.2.take (k + 1))).length by rw [hst, List.length_append]; rfl]
   exact g_nextA (k + 1, a26, c26) hkl (by dsimp only; omega)
  ·have hke : k = im.2.length := by omega
   subst hke
   have hwl := worstL_len im.2 im.2.length (Nat.le_refl _)
   have hwi := worstL_in im.2 im.2.length (Nat.le_refl _)
   rw [List.take_length] at hwl hwi ⊢
   have hlast : ((worstL im.2).map encI)[((worstL im.2).length - 1)]? = some (.int .i64 ((worstL im.2).getLastD 0)) := by
    rw [List.getElem?_map, ← List.getLast?_eq_getElem?, List.getLastD_eq_getLast?]
    cases e : (worstL im.2).getLast? with
    | none =>
     rw [List.getLast?_eq_none_iff] at e
     rw [e] at hwl; simp at hwl; omega
    | some v => rfl
   have hlI : 0 ≤ (worstL im.2).getLastD 0 ∧ (worstL im.2).getLastD 0 ≤ farN + 1 := by
    rw [List.getLastD_eq_getLast?]
    cases e : (worstL im.2).getLast? with
    | none => exact ⟨Int.le_refl 0, by decide⟩
    | some v => exact hwi v (List.mem_of_getLast? e)
   generalize worstL im.2 = W at hwl hlast hlI ⊢
   refine g_own (e := 3) (size := 1) (a1 := oa) (k := W.length) (cap := oc) (xs := W.map encI) (by repeat' (first | exact Take.here | apply Take.there)) (fun _ h _ _ => absurd h (by omega)) ?_
   rintro g cur rfl hc1 hc2 hcl htk hxl
   refine g_exit <| g_qt_exit <| g_qn_exit <| g_qb_exit <| g_qt <| g_seq <| g_region ?_
   refine g_mv ?_
   refine g_mv ?_
   refine g_pure (p_len (by rfl) rfl) rfl ?_
   first | refine g_pure (p_subi rfl rfl (by omega)) rfl ?_ | refine g_pure (p_sub rfl rfl) rfl ?_
   refine g_pure (p_indexAddr rfl rfl (by omega) (fun _ => rfl)) rfl ?_
   refine g_pure (p_load (v := .int .i64 (W.getLastD 0)) (by rfl) rfl (Has.own (by repeat' (first | exact Take.here | apply Take.there))) (own_at (k := W.length - 1) htk (by show 0 + ((W.length : Int) - 1).toNat * 1 = _; omega) hlast)) rfl ?_
   refine g_as ?_
   refine g_nil <| g_qt <| g_seq <| g_seq <| g_region ?_
   refine g_mv ?_
   refine g_pure (p_gtr rfl rfl) rfl ?_
   refine g_nil <| g_qt ?_
   refine g_ifd rfl (fun h2 => ?_) (fun h2 => ?_)
   ·refine g_seq <| g_region ?_
    refine g_as ?_
    refine g_as ?_
    refine g_nil <| g_qt <| g_ret <| g_qt_ret ?_
    exact g_postA (rs := [.tmp 2, .tmp 3]) rfl (.tmp rfl (.tmp rfl .nil)) ⟨by rw [if_pos (show farN < _ from h2)]; rfl, rfl⟩
   ·refine g_skip <| g_qt <| g_seq <| g_region ?_
    refine g_mv ?_
    refine g_as ?_
    refine g_as ?_
    refine g_nil <| g_qt <| g_ret ?_
    exact g_postA (rs := [.tmp 2, .tmp 3]) rfl (.tmp rfl (.tmp rfl .nil)) ⟨by rw [if_neg (show ¬ farN < _ from h2)]; rfl, rfl⟩
end Go.Proofs.YtcnfcoojmbjdlaaGreatDoor
/- Chapter 26: runs of numbers; sorting and dropping repeats; what an instruction reads and writes. Conditions: none. -/
namespace Go.Z
set_option maxRecDepth 8000
set_option linter.unusedVariables false
set_option linter.unusedSimpArgs false
set_option linter.unusedSectionVars false
open Go Go.Sort
theorem ms_same {ρ : Nat → Obj → Prop} {H : List Assn} {hp : Hp} {w : World} (s : Sat H hp) (su : Sub hp w) (r : ∀ b o, ρ b o → w.heap[b]? = some o ∧ hp b = none) : Ms ⟨ρ, w, hp⟩ H w :=
 ⟨rfl, rfl, rfl, Nat.le_refl _, fun _ _ _ => rfl, fun b o h => (r b o h).1, hp, s, su, fun b h => .inl h, fun b o h => (r b o h).2⟩
theorem sat_own {e : TypeId} {size : Nat} {a : Option Addr} {k cap : Nat} {xs : List Value} {hp : Hp} (s : Sat [OwnSl e size a k cap xs] hp) (h0 : 0 < k) :
  xs.length = k * size ∧ ∃ (g : Nat) (cur : List Value), a = some ⟨g, 0, none⟩ ∧ k ≤ cap ∧ cap ≤ maxLen ∧ cur.length = cap * size ∧ cur.take (k * size) = xs ∧ hp = one g (.cells cur.toArray e (0, 0)) := by
 obtain ⟨h1, h2, ⟨e1, e2⟩, e3, _, e4⟩ := s
 have e3' : h2 = fun _ => none := e3
 subst e3'
 have e5 : hp = h1 := by rw [e4]; funext c; unfold join; cases h1 c <;> rfl
 subst e5
 refine ⟨e1, ?_⟩
 rcases e2 with ⟨_, a2, _⟩ | h
 ·omega
 ·exact h
/-- a call that leaves the row g of the caller's with other cells -/
theorem ms_row {ρ : Nat → Obj → Prop} {w : World} {g cap k' : Nat} {cur : List Value} {T : TypeId} (hw : w.heap[g]? = some (.cells cur.toArray T (0, 0))) (hr : ∀ b' o, ρ b' o → w.heap[b']? = some o ∧ one g (.cells cur.toArray T (0, 0)) b' = none)
  (hcl : cur.length = cap * 1) (hcm : cap ≤ maxLen) (d : List Int) (hd : d.length ≤ cap) (hk : k' ≤ d.length) (k : Nat) (os : Array Obj) :
  Ms ⟨ρ, w, one g (.cells cur.toArray T (0, 0))⟩ [OwnSl T 1 (some ⟨g, 0, none⟩) k' cap ((d.take k').map encI)] (grow (putRow encI (w.drewN k) g 0 d.toArray) os) := by
 have h := ms_put encI hw hr d.toArray 0 k os
 rw [put_zero encI d cur (by omega)] at h
 have hm : cap ≤ 9223372036854775807 := by simp only [maxLen] at hcm; omega
 refine h.weaken (fun q hq => ?_)
 have := own_of_blk (e := T) (size := 1) (g := g) (k := k') (cap := cap) (cur := d.map encI ++ cur.drop d.length) (by omega) hm (by simp; omega) q hq
 rw [Nat.mul_one, List.take_append_of_le_length (by simpa using hk), ← List.map_take] at this
 exact this
end Go.Z
namespace Go.Z.Asm
set_option maxRecDepth 8000
set_option linter.unusedVariables false
set_option linter.unusedSimpArgs false
set_option linter.unusedSectionVars false
open Go Go.Z Go.Lib
def leI : Int → Int → Bool := fun x y => decide (x ≤ y)
theorem runP_len (a : Int) (n : Nat) : (runP a n).length = n := by simp [runP]
theorem runP_step (a : Int) (k : Nat) : runP a (k + 1) = runP a k ++ [a + k] := by unfold runP; rw [List.range_succ, List.map_append]; rfl
theorem runP_at (a : Int) (n : Nat) (i : Nat) (h : i < n) : (runP a n)[i]'(by rw [runP_len]; exact h) = a + i := by simp [runP]
theorem sort_run (a : Int) (n : Nat) : (runP a n).mergeSort leI = runP a n := by
 apply List.mergeSort_of_pairwise
 rw [List.pairwise_iff_getElem]
 intro i j h1 h2 hij
 rw [runP_len] at h1 h2
 rw [runP_at a n i h1, runP_at a n j h2]
 simp [leI]; omega
theorem compact_run (a : Int) (n : Nat) : compact (runP a n) = runP a n := by
 refine compact_all _ fun j hj => ?_
 rw [runP_len] at hj
 unfold keeps
 rw [decide_eq_true_eq]
 by_cases h0 : j = 0
 ·exact .inl h0
 ·right
  rw [getElem!_pos _ j (by simp [runP_len]; exact hj), getElem!_pos _ (j - 1) (by simp [runP_len]; omega)]
  simp [runP]; omega
theorem compact_two (x y : Int) : compact [x, y] = if x = y then [x] else [x, y] := by
 unfold compact
 show compactUpTo [x, y].toArray (0 + 1 + 1) = _
 rw [compactUpTo_succ, compactUpTo_succ]
 have e0 : compactUpTo [x, y].toArray 0 = [] := rfl
 have e1 : keeps [x, y].toArray 0 = true := by simp [keeps]
 have e2 : keeps [x, y].toArray (0 + 1) = decide (y ≠ x) := by simp [keeps]
 rw [e0, e1, e2]
 by_cases h : x = y
 ·subst h; simp
 ·have : y ≠ x := fun e => h e.symm
  simp [h, this]
theorem compact_one (x : Int) : compact [x] = [x] := by
 refine compact_all _ fun j hj => ?_
 have : j = 0 := by simpa using hj
 subst this; simp [keeps]
theorem sort_two (x y : Int) : [x, y].mergeSort leI = [min x y, max x y] := by
 by_cases h : x ≤ y
 ·have : [x, y].mergeSort leI = [x, y] := by apply List.mergeSort_of_pairwise; simp [leI, h]
  rw [this, Int.min_eq_left h, Int.max_eq_right h]
 ·have h' : y ≤ x := by omega
  rw [Int.min_eq_right h', Int.max_eq_left h']
  simp [List.mergeSort, List.MergeSort.Internal.splitInTwo, List.merge, leI, h]
/-- the registers before they are sorted -/
def rawU (rts : List Rt) (i : Ins) : List Int :=
 if i.1 = 2 ∨ i.1 = 4 ∨ i.1 = 5 then [i.2.2.1] else if i.1 = 6 then [i.2.2.1, i.2.2.2.1] else if i.1 = 8 then [i.2.1] else if i.1 = 9 then runP i.2.2.2.1 (calledP rts i.2.1).2.1.length else []
theorem rawU_sorted (rts : List Rt) (i : Ins) : compact ((rawU rts i).mergeSort leI) = usesP rts i := by
 unfold rawU usesP
 split
 ·rw [List.mergeSort_singleton, compact_one]
 ·split
  ·rw [sort_two, compact_two]
   by_cases h : i.2.2.1 = i.2.2.2.1
   ·rw [if_pos h, if_pos (by omega), ← h]; simp
   ·rw [if_neg h, if_neg (by omega)]
  ·split
   ·rw [List.mergeSort_singleton, compact_one]
   ·split
    ·rw [sort_run, compact_run]
    ·rw [List.mergeSort_nil]; rfl
end Go.Z.Asm
namespace Go.Proofs.YtcnfcoojmbjdlaaGreatDoor
set_option maxRecDepth 8000
set_option linter.unusedVariables false
set_option linter.unusedSimpArgs false
set_option linter.unusedSectionVars false
open Go Go.Z Go.Z.Asm Go.Sort

theorem sort_ok {ρ : Nat → Obj → Prop} (a : Option Addr) (cap : Nat) (l : List Int) (hl : l.length < 4611686018427387904) : Con Tryz.prog ρ 38 #[.slice a l.length cap] [OwnSl 3 1 a l.length cap (l.map encI)]
  (fun v H => v = .tuple #[] ∧ H = [OwnSl 3 1 a l.length cap ((l.mergeSort leI).map encI)]) :=
 ⟨Tryz.call38, fun w hp sa su r => by
  rcases Nat.eq_zero_or_pos l.length with h0 | h0
  ·have hn : l = [] := List.eq_nil_of_length_eq_zero h0
   subst hn
   exact Calls.mono (show Calls Tryz.prog 38 #[.slice a 0 cap] w _ from Any.slices_Sort_int_none lays189 a cap w) fun e w' ⟨e1, e2⟩ => ⟨_, _, e1, ⟨rfl, rfl⟩, by subst e2; rw [List.mergeSort_nil]; exact ms_same sa su r⟩
  ·obtain ⟨_, g, cur, rfl, k1, k2, k3, k4, rfl⟩ := sat_own sa h0
   have hw := su g _ one_self
   have hH : Go.Sort.Holds (Value.int .i64) w g 0 l.toArray := holds_blk (Value.int .i64) hw l (by rw [Nat.mul_one] at k4; exact k4)
   refine Calls.mono (show Calls Tryz.prog 38 #[.slice (some ⟨g, 0, none⟩) l.length cap] w _ from Any.slices_Sort_int lays189 g 0 cap l w hH (lt_of_heap hw) hl) fun e w' ⟨e1, n, os, e2⟩ => ⟨_, _, e1, ⟨rfl, rfl⟩, ?_⟩
   have hms := ms_row (k' := l.length) hw r k3 k2 (l.mergeSort leI) (by rw [List.length_mergeSort]; exact k1) (by rw [List.length_mergeSort]; exact Nat.le_refl _) n os
   rw [List.take_of_length_le (by rw [List.length_mergeSort]; exact Nat.le_refl _)] at hms
   subst e2
   exact hms⟩
theorem compact_ok {ρ : Nat → Obj → Prop} (a : Option Addr) (cap : Nat) (l : List Int) (hl : l.length ≤ 9223372036854775807) : Con Tryz.prog ρ 39 #[.slice a l.length cap] [OwnSl 3 1 a l.length cap (l.map encI)]
  (fun v H => v = .slice a (Lib.compact l).length cap ∧ H = [OwnSl 3 1 a (Lib.compact l).length cap ((Lib.compact l).map encI)]) :=
 ⟨Tryz.call39, fun w hp sa su r => by
  rcases Nat.eq_zero_or_pos l.length with h0 | h0
  ·have hn : l = [] := List.eq_nil_of_length_eq_zero h0
   subst hn
   exact Calls.mono (show Calls Tryz.prog 39 #[.slice a 0 cap] w _ from Any.slices_Compact_int_empty laysNm220 a cap w) fun e w' ⟨e1, e2⟩ => ⟨_, _, e1, ⟨rfl, rfl⟩, by subst e2; exact ms_same sa su r⟩
  ·obtain ⟨_, g, cur, rfl, k1, k2, k3, k4, rfl⟩ := sat_own sa h0
   have hw := su g _ one_self
   have hle := Lib.compact_length_le l
   have hH : Go.Sort.Holds (Value.int .i64) w g 0 l.toArray := holds_blk (Value.int .i64) hw l (by rw [Nat.mul_one] at k4; exact k4)
   refine Calls.mono (show Calls Tryz.prog 39 #[.slice (some ⟨g, 0, none⟩) l.length cap] w _ from Any.slices_Compact_int laysNm220 g 0 cap l w hH hl k1) fun e w' ⟨e1, q, e2⟩ => ⟨_, _, e1, ⟨rfl, rfl⟩, ?_⟩
   have hms := ms_row (k' := (Lib.compact l).length) hw r k3 k2 (Lib.compact l ++ List.replicate (l.length - (Lib.compact l).length) 0) (by rw [List.length_append, List.length_replicate]; omega) (by rw [List.length_append]; omega) q #[]
   rw [List.take_left, grow_empty] at hms
   subst e2
   exact hms⟩

theorem run_ok {ρ : Nat → Obj → Prop} (a : Int) (n : Nat) (ha : -4611686018427387904 ≤ a ∧ a ≤ 4611686018427387904) (hn : n ≤ 17592186044416) : Con Tryz.prog ρ 36 #[.int .i64 a, .int .i64 n] []
  (fun v H => ∃ b c, v = .slice b (runP a n).length c ∧ H = [OwnSl 3 1 b (runP a n).length c ((runP a n).map encI)]) := by
 obtain ⟨ha1, ha2⟩ := ha
 refine con_intro Tryz.func36 Tryz.call36 rfl Tryz.ntmps36 rfl (L := [(0, _), (1, _)]) rfl fun w hh => ?_
 refine g_seq <| g_region ?_
 refine g_as ?_
 refine g_nil <| g_qt <| g_seq <| g_region ?_
 refine g_as ?_
 refine g_nil <| g_qt <| g_seq <| g_seq <| g_region ?_
 refine g_mv ?_
 refine g_mv ?_
 refine g_nil <| g_qt <| g_block ?_
 refine g_ownnil (e := 3) (size := 1) ?_
 refine g_loop (fun q : Nat × Option Addr × Nat => [(0, .int .i64 a), (5, .slice q.2.1 (runP a q.1).length q.2.2), (7, .int .i64 n), (8, .int .i64 q.1)])
  (fun q => [OwnSl 3 1 q.2.1 (runP a q.1).length q.2.2 ((runP a q.1).map encI)]) (fun q => q.1 ≤ n) (fun q => n - q.1) (0, none, 0) (Nat.zero_le _) (by (repeat (first | exact trivial | refine ⟨by rfl, ?_⟩)); done) (by repeat' (first | exact Cover.nil | exact Take.here | apply Cover.cons | apply Take.there)) ?_
 rintro ⟨k, oa, oc⟩ hk1
 dsimp only at hk1 ⊢
 have hrl := runP_len a k
 refine g_seq <| g_region ?_
 refine g_pure (p_lss rfl rfl) rfl ?_
 refine g_nil <| g_qt <| g_seq ?_
 refine g_ifd rfl (fun q => ?_) (fun q => ?_)
 ·have hst := runP_step a k
  refine g_skip <| g_qt <| g_seq <| g_block <| g_seq <| g_region ?_
  refine g_mv ?_
  refine g_as ?_
  refine g_nil <| g_qt <| g_region ?_
  refine g_mv ?_
  refine g_mv ?_
  refine g_mv ?_
  first | refine g_pure (p_addi rfl rfl (by omega)) rfl ?_ | refine g_pure (p_add rfl rfl) rfl ?_
  refine g_eff (e_bs (xs := [.tmp 14]) rfl rfl rfl (by rfl) (by rfl) rfl (by rfl)) rfl (fun _ _ => ?_)
  rintro ⟨b15, rfl, rfl⟩
  refine g_eff (e_appendO (by rfl) (by rfl) rfl rfl (by first | (apply Has.own; (repeat' (first | exact Take.here | apply Take.there)); done) | exact Has.ro (by assumption)) (by rfl) (by rfl) (by repeat' (first | exact Take.here | apply Take.there)) (by omega) (by first | omega | (dsimp only; omega) | (simp <;> omega)) (by omega)) rfl (fun _ _ => ?_)
  rintro ⟨a16, c16, rfl, rfl⟩
  refine g_as ?_
  refine g_nil <| g_qb <| g_qt <| g_region ?_
  first | refine g_pure (p_addi rfl rfl (by omega)) rfl ?_ | refine g_pure (p_add rfl rfl) rfl ?_
  refine g_mv ?_
  refine g_nil <| g_qn ?_
  rw [show (runP a k).map encI ++ [Value.int IntKind.i64 (a + k)] = (runP a (k + 1)).map encI by rw [hst, List.map_append]; rfl, show (runP a k).length + 1 = (runP a (k + 1)).length by rw [hst, List.length_append]; rfl]
  exact g_nextA (k + 1, a16, c16) (by dsimp only; omega) (by dsimp only; omega)
 ·have hke : k = n := by omega
  subst hke
  refine g_exit <| g_qt_exit <| g_qn_exit <| g_qb_exit <| g_qt <| g_seq <| g_region ?_
  refine g_mv ?_
  refine g_as ?_
  refine g_nil <| g_qt <| g_ret ?_
  exact g_postA (rs := [.tmp 4]) rfl (.tmp rfl .nil) ⟨oa, oc, rfl, rfl⟩
end Go.Proofs.YtcnfcoojmbjdlaaGreatDoor
/- Chapter 26: what an instruction reads and writes. Conditions: none. -/
namespace Go.Z.Asm
set_option maxRecDepth 8000
set_option linter.unusedVariables false
set_option linter.unusedSimpArgs false
set_option linter.unusedSectionVars false
open Go Go.Z Go.Lib
def bigI (x : Int) : Prop := -4611686018427387904 ≤ x ∧ x ≤ 4611686018427387904
end Go.Z.Asm
namespace Go.Proofs.YtcnfcoojmbjdlaaGreatDoor
set_option maxRecDepth 8000
set_option linter.unusedVariables false
set_option linter.unusedSimpArgs false
set_option linter.unusedSectionVars false
open Go Go.Z Go.Z.Asm

theorem rawU_len {rts : List Rt} (h : ∀ x ∈ rts, RtOk x) (i : Ins) : (rawU rts i).length ≤ 17592186044416 := by
 have := (calledP_len h i.2.1).il
 unfold rawU
 split
 ·simp
 ·split
  ·simp
  ·split
   ·simp
   ·split
    ·rw [runP_len]; exact this
    ·simp
theorem usesA_ok {ρ : Nat → Obj → Prop} {ea ra : Option Addr} {ec rc : Nat} {im : Im} (h : ImI ρ ea ra im) (i : Ins) (hi : bigI i.2.2.2.1) :
  Con Tryz.prog ρ 17 #[.agg #[.slice ea im.1.length ec, .slice ra im.2.length rc], .agg (encIns i).toArray] []
  (fun v H => ∃ a c, v = .slice a (usesP im.2 i).length c ∧ H = [OwnSl 3 1 a (usesP im.2 i).length c ((usesP im.2 i).map encI)]) := by
 obtain ⟨hi1, hi2⟩ := id hi
 have hl := rawU_len h.ok i
 have hcok := calledP_len h.ok i.2.1
 have hcil := hcok.il
 obtain ⟨y, hy⟩ : ∃ y, calledP im.2 i.2.1 = y := ⟨_, rfl⟩
 rw [← rawU_sorted]
 have hR : rawU im.2 i = if i.1 = 2 ∨ i.1 = 4 ∨ i.1 = 5 then [i.2.2.1] else if i.1 = 6 then [i.2.2.1, i.2.2.2.1] else if i.1 = 8 then [i.2.1] else if i.1 = 9 then runP i.2.2.2.1 y.2.1.length else [] := by unfold rawU; rw [hy]
 rw [hy] at hcil
 generalize rawU im.2 i = R at hR hl ⊢
 refine con_intro Tryz.func17 Tryz.call17 rfl Tryz.ntmps17 rfl (L := [(0, _), (1, _)]) rfl fun w hh => ?_
 refine g_seq <| g_region ?_
 refine g_eff (e_box rfl (by rfl)) rfl (fun _ _ => ?_)
 rintro ⟨b2, rfl, rfl⟩
 refine g_eff (e_box rfl (by rfl)) rfl (fun _ _ => ?_)
 rintro ⟨b3, rfl, rfl⟩
 refine g_as ?_
 refine g_nil <| g_qt <| g_seq <| g_region ?_
 refine g_as ?_
 refine g_nil <| g_qt <| g_seq <| g_seq <| g_region ?_
 refine g_fa ?_
 refine g_ld ?_
 refine g_nil <| g_qt ?_
 refine g_join (fun q : Option Addr × Nat => [(5, .slice q.1 R.length q.2)]) (fun q => [OwnSl 3 1 q.1 R.length q.2 (R.map encI)]) (fun _ => True) ?_ ?_
 ·refine g_block <| g_seq <| g_seq <| g_region ?_
  refine g_pure (p_eql rfl rfl) rfl ?_
  refine g_as ?_
  refine g_nil <| g_qt ?_
  refine g_ifdL rfl (fun h1 => ?_) (fun h1 => ?_)
  ·refine g_skip <| g_qt ?_
   refine g_ift rfl ?_
   refine g_region ?_
   refine g_fa ?_
   refine g_ld ?_
   refine g_eff (e_bs (xs := [.tmp 13]) rfl rfl rfl (by rfl) (by rfl) rfl (by rfl)) rfl (fun _ _ => ?_)
   rintro ⟨b14, rfl, rfl⟩
   refine g_as ?_
   refine g_nil <| g_qb <| g_qn ?_
   first | (obtain rfl : R = [i.2.2.1] := hR.trans (if_pos (by omega)); refine g_fold (e := 3) (size := 1) (g := b14) (k := 1) (cap := 1) (cur := [.int .i64 i.2.2.1]) (xs := ([i.2.2.1] : List Int).map encI) (by repeat' (first | exact Take.here | apply Take.there)) (by decide) (by decide) rfl rfl ?_; exact g_joinedA (some ⟨b14, 0, none⟩, 1) trivial) | (obtain rfl : R = [i.2.2.1, i.2.2.2.1] := hR.trans ((if_neg (by omega)).trans (if_pos (by omega))); refine g_fold (e := 3) (size := 1) (g := b21) (k := 2) (cap := 2) (cur := [.int .i64 i.2.2.1, .int .i64 i.2.2.2.1]) (xs := ([i.2.2.1, i.2.2.2.1] : List Int).map encI) (by repeat' (first | exact Take.here | apply Take.there)) (by decide) (by decide) rfl rfl ?_; exact g_joinedA (some ⟨b21, 0, none⟩, 2) trivial) | (obtain rfl : R = [i.2.1] := hR.trans ((if_neg (by omega)).trans ((if_neg (by omega)).trans (if_pos (by omega)))); refine g_fold (e := 3) (size := 1) (g := b26) (k := 1) (cap := 1) (cur := [.int .i64 i.2.1]) (xs := ([i.2.1] : List Int).map encI) (by repeat' (first | exact Take.here | apply Take.there)) (by decide) (by decide) rfl rfl ?_; exact g_joinedA (some ⟨b26, 0, none⟩, 1) trivial) | (obtain rfl : R = runP i.2.2.2.1 y.2.1.length := hR.trans ((if_neg (by omega)).trans ((if_neg (by omega)).trans ((if_neg (by omega)).trans (if_pos (by omega))))); exact g_joinedA (b37, c37) trivial) | (obtain rfl : R = [] := hR.trans ((if_neg (by omega)).trans ((if_neg (by omega)).trans ((if_neg (by omega)).trans (if_neg (by omega))))); refine g_ownnil (e := 3) (size := 1) ?_; exact g_joinedA (none, 0) trivial) | (exfalso; omega)
  ·refine g_seq <| g_region ?_
   refine g_pure (p_eql rfl rfl) rfl ?_
   refine g_as ?_
   refine g_nil <| g_qt ?_
   refine g_ifdL rfl (fun h3 => ?_) (fun h3 => ?_)
   ·refine g_skip <| g_qt ?_
    refine g_ift rfl ?_
    refine g_region ?_
    refine g_fa ?_
    refine g_ld ?_
    refine g_eff (e_bs (xs := [.tmp 13]) rfl rfl rfl (by rfl) (by rfl) rfl (by rfl)) rfl (fun _ _ => ?_)
    rintro ⟨b14, rfl, rfl⟩
    refine g_as ?_
    refine g_nil <| g_qb <| g_qn ?_
    first | (obtain rfl : R = [i.2.2.1] := hR.trans (if_pos (by omega)); refine g_fold (e := 3) (size := 1) (g := b14) (k := 1) (cap := 1) (cur := [.int .i64 i.2.2.1]) (xs := ([i.2.2.1] : List Int).map encI) (by repeat' (first | exact Take.here | apply Take.there)) (by decide) (by decide) rfl rfl ?_; exact g_joinedA (some ⟨b14, 0, none⟩, 1) trivial) | (obtain rfl : R = [i.2.2.1, i.2.2.2.1] := hR.trans ((if_neg (by omega)).trans (if_pos (by omega))); refine g_fold (e := 3) (size := 1) (g := b21) (k := 2) (cap := 2) (cur := [.int .i64 i.2.2.1, .int .i64 i.2.2.2.1]) (xs := ([i.2.2.1, i.2.2.2.1] : List Int).map encI) (by repeat' (first | exact Take.here | apply Take.there)) (by decide) (by decide) rfl rfl ?_; exact g_joinedA (some ⟨b21, 0, none⟩, 2) trivial) | (obtain rfl : R = [i.2.1] := hR.trans ((if_neg (by omega)).trans ((if_neg (by omega)).trans (if_pos (by omega)))); refine g_fold (e := 3) (size := 1) (g := b26) (k := 1) (cap := 1) (cur := [.int .i64 i.2.1]) (xs := ([i.2.1] : List Int).map encI) (by repeat' (first | exact Take.here | apply Take.there)) (by decide) (by decide) rfl rfl ?_; exact g_joinedA (some ⟨b26, 0, none⟩, 1) trivial) | (obtain rfl : R = runP i.2.2.2.1 y.2.1.length := hR.trans ((if_neg (by omega)).trans ((if_neg (by omega)).trans ((if_neg (by omega)).trans (if_pos (by omega))))); exact g_joinedA (b37, c37) trivial) | (obtain rfl : R = [] := hR.trans ((if_neg (by omega)).trans ((if_neg (by omega)).trans ((if_neg (by omega)).trans (if_neg (by omega))))); refine g_ownnil (e := 3) (size := 1) ?_; exact g_joinedA (none, 0) trivial) | (exfalso; omega)
   ·refine g_region ?_
    refine g_pure (p_eql rfl rfl) rfl ?_
    refine g_as ?_
    refine g_nil <| g_qt ?_
    refine g_ifdL rfl (fun h5 => ?_) (fun h5 => ?_)
    ·refine g_region ?_
     refine g_fa ?_
     refine g_ld ?_
     refine g_eff (e_bs (xs := [.tmp 13]) rfl rfl rfl (by rfl) (by rfl) rfl (by rfl)) rfl (fun _ _ => ?_)
     rintro ⟨b14, rfl, rfl⟩
     refine g_as ?_
     refine g_nil <| g_qb <| g_qn ?_
     first | (obtain rfl : R = [i.2.2.1] := hR.trans (if_pos (by omega)); refine g_fold (e := 3) (size := 1) (g := b14) (k := 1) (cap := 1) (cur := [.int .i64 i.2.2.1]) (xs := ([i.2.2.1] : List Int).map encI) (by repeat' (first | exact Take.here | apply Take.there)) (by decide) (by decide) rfl rfl ?_; exact g_joinedA (some ⟨b14, 0, none⟩, 1) trivial) | (obtain rfl : R = [i.2.2.1, i.2.2.2.1] := hR.trans ((if_neg (by omega)).trans (if_pos (by omega))); refine g_fold (e := 3) (size := 1) (g := b21) (k := 2) (cap := 2) (cur := [.int .i64 i.2.2.1, .int .i64 i.2.2.2.1]) (xs := ([i.2.2.1, i.2.2.2.1] : List Int).map encI) (by repeat' (first | exact Take.here | apply Take.there)) (by decide) (by decide) rfl rfl ?_; exact g_joinedA (some ⟨b21, 0, none⟩, 2) trivial) | (obtain rfl : R = [i.2.1] := hR.trans ((if_neg (by omega)).trans ((if_neg (by omega)).trans (if_pos (by omega)))); refine g_fold (e := 3) (size := 1) (g := b26) (k := 1) (cap := 1) (cur := [.int .i64 i.2.1]) (xs := ([i.2.1] : List Int).map encI) (by repeat' (first | exact Take.here | apply Take.there)) (by decide) (by decide) rfl rfl ?_; exact g_joinedA (some ⟨b26, 0, none⟩, 1) trivial) | (obtain rfl : R = runP i.2.2.2.1 y.2.1.length := hR.trans ((if_neg (by omega)).trans ((if_neg (by omega)).trans ((if_neg (by omega)).trans (if_pos (by omega))))); exact g_joinedA (b37, c37) trivial) | (obtain rfl : R = [] := hR.trans ((if_neg (by omega)).trans ((if_neg (by omega)).trans ((if_neg (by omega)).trans (if_neg (by omega))))); refine g_ownnil (e := 3) (size := 1) ?_; exact g_joinedA (none, 0) trivial) | (exfalso; omega)
    ·refine g_seq <| g_region ?_
     refine g_pure (p_eql rfl rfl) rfl ?_
     refine g_as ?_
     refine g_nil <| g_qt ?_
     refine g_ifdL rfl (fun h6 => ?_) (fun h6 => ?_)
     ·refine g_region ?_
      refine g_fa ?_
      refine g_ld ?_
      refine g_fa ?_
      refine g_ld ?_
      refine g_eff (e_bs (xs := [.tmp 18, .tmp 20]) rfl rfl rfl (by rfl) (by rfl) rfl (by rfl)) rfl (fun _ _ => ?_)
      rintro ⟨b21, rfl, rfl⟩
      refine g_as ?_
      refine g_nil <| g_qb <| g_qn ?_
      first | (obtain rfl : R = [i.2.2.1] := hR.trans (if_pos (by omega)); refine g_fold (e := 3) (size := 1) (g := b14) (k := 1) (cap := 1) (cur := [.int .i64 i.2.2.1]) (xs := ([i.2.2.1] : List Int).map encI) (by repeat' (first | exact Take.here | apply Take.there)) (by decide) (by decide) rfl rfl ?_; exact g_joinedA (some ⟨b14, 0, none⟩, 1) trivial) | (obtain rfl : R = [i.2.2.1, i.2.2.2.1] := hR.trans ((if_neg (by omega)).trans (if_pos (by omega))); refine g_fold (e := 3) (size := 1) (g := b21) (k := 2) (cap := 2) (cur := [.int .i64 i.2.2.1, .int .i64 i.2.2.2.1]) (xs := ([i.2.2.1, i.2.2.2.1] : List Int).map encI) (by repeat' (first | exact Take.here | apply Take.there)) (by decide) (by decide) rfl rfl ?_; exact g_joinedA (some ⟨b21, 0, none⟩, 2) trivial) | (obtain rfl : R = [i.2.1] := hR.trans ((if_neg (by omega)).trans ((if_neg (by omega)).trans (if_pos (by omega)))); refine g_fold (e := 3) (size := 1) (g := b26) (k := 1) (cap := 1) (cur := [.int .i64 i.2.1]) (xs := ([i.2.1] : List Int).map encI) (by repeat' (first | exact Take.here | apply Take.there)) (by decide) (by decide) rfl rfl ?_; exact g_joinedA (some ⟨b26, 0, none⟩, 1) trivial) | (obtain rfl : R = runP i.2.2.2.1 y.2.1.length := hR.trans ((if_neg (by omega)).trans ((if_neg (by omega)).trans ((if_neg (by omega)).trans (if_pos (by omega))))); exact g_joinedA (b37, c37) trivial) | (obtain rfl : R = [] := hR.trans ((if_neg (by omega)).trans ((if_neg (by omega)).trans ((if_neg (by omega)).trans (if_neg (by omega))))); refine g_ownnil (e := 3) (size := 1) ?_; exact g_joinedA (none, 0) trivial) | (exfalso; omega)
     ·refine g_seq <| g_region ?_
      refine g_pure (p_eql rfl rfl) rfl ?_
      refine g_as ?_
      refine g_nil <| g_qt ?_
      refine g_ifdL rfl (fun h7 => ?_) (fun h7 => ?_)
      ·refine g_region ?_
       refine g_fa ?_
       refine g_ld ?_
       refine g_eff (e_bs (xs := [.tmp 25]) rfl rfl rfl (by rfl) (by rfl) rfl (by rfl)) rfl (fun _ _ => ?_)
       rintro ⟨b26, rfl, rfl⟩
       refine g_as ?_
       refine g_nil <| g_qb <| g_qn ?_
       first | (obtain rfl : R = [i.2.2.1] := hR.trans (if_pos (by omega)); refine g_fold (e := 3) (size := 1) (g := b14) (k := 1) (cap := 1) (cur := [.int .i64 i.2.2.1]) (xs := ([i.2.2.1] : List Int).map encI) (by repeat' (first | exact Take.here | apply Take.there)) (by decide) (by decide) rfl rfl ?_; exact g_joinedA (some ⟨b14, 0, none⟩, 1) trivial) | (obtain rfl : R = [i.2.2.1, i.2.2.2.1] := hR.trans ((if_neg (by omega)).trans (if_pos (by omega))); refine g_fold (e := 3) (size := 1) (g := b21) (k := 2) (cap := 2) (cur := [.int .i64 i.2.2.1, .int .i64 i.2.2.2.1]) (xs := ([i.2.2.1, i.2.2.2.1] : List Int).map encI) (by repeat' (first | exact Take.here | apply Take.there)) (by decide) (by decide) rfl rfl ?_; exact g_joinedA (some ⟨b21, 0, none⟩, 2) trivial) | (obtain rfl : R = [i.2.1] := hR.trans ((if_neg (by omega)).trans ((if_neg (by omega)).trans (if_pos (by omega)))); refine g_fold (e := 3) (size := 1) (g := b26) (k := 1) (cap := 1) (cur := [.int .i64 i.2.1]) (xs := ([i.2.1] : List Int).map encI) (by repeat' (first | exact Take.here | apply Take.there)) (by decide) (by decide) rfl rfl ?_; exact g_joinedA (some ⟨b26, 0, none⟩, 1) trivial) | (obtain rfl : R = runP i.2.2.2.1 y.2.1.length := hR.trans ((if_neg (by omega)).trans ((if_neg (by omega)).trans ((if_neg (by omega)).trans (if_pos (by omega))))); exact g_joinedA (b37, c37) trivial) | (obtain rfl : R = [] := hR.trans ((if_neg (by omega)).trans ((if_neg (by omega)).trans ((if_neg (by omega)).trans (if_neg (by omega))))); refine g_ownnil (e := 3) (size := 1) ?_; exact g_joinedA (none, 0) trivial) | (exfalso; omega)
      ·refine g_seq <| g_region ?_
       refine g_pure (p_eql rfl rfl) rfl ?_
       refine g_as ?_
       refine g_nil <| g_qt ?_
       refine g_ifdL rfl (fun h8 => ?_) (fun h8 => ?_)
       ·refine m_begin0 (.fl 0 0 (.fl 1 1 (.fl 2 1 (.fl 3 0 (.fl 4 1 (.ef 5 (.fl 6 0 (.fl 7 0 (.ef 8 (.fl 9 0 .done)))))))))) (by kernel_rfl) (by kernel_rfl) ?_
        refine m_float0 rfl (fun _ _ => p_fieldAddr rfl) rfl ?_
        refine m_float rfl (p_loadA) rfl ?_
        first | refine m_float rfl (p_loadO (by rfl) rfl (by first | (apply Has.own; (repeat' (first | exact Take.here | apply Take.there)); done) | exact Has.ro (by assumption)) (by rfl)) rfl ?_ | refine m_float rfl (p_loadN (by rfl) rfl (by first | (apply Has.own; (repeat' (first | exact Take.here | apply Take.there)); done) | exact Has.ro (by assumption)) (by first | rfl | assumption)) rfl ?_
        refine m_float0 rfl (fun _ _ => p_fieldAddr rfl) rfl ?_
        refine m_float rfl (p_loadA) rfl ?_
        refine m_call (Hin := []) (Hr := ?hr1) (R := ?rr1) rfl wantedN rfl rfl rfl ?hin1 ?hc1 ?hk1
        case hin1 => repeat' (first | exact Cover.nil | exact Take.here | apply Cover.cons | apply Take.there)
        case hc1 => intro ρ' hρ hR; exact called_at (ec := ec) (rc := rc) (h.mono hρ) i.2.1 hy
        rintro _ _ ⟨ja, jc, pa, pc, qa, qc, sa, sc, rfl, rfl⟩
        refine ⟨.some (by repeat' (first | exact Cover.nil | exact Take.here | apply Cover.cons | apply Take.there)), ?_⟩
        refine m_float0 rfl (fun _ _ => p_fieldV Tryz.underlying45 rfl ty22 rfl rfl rfl) rfl ?_
        refine m_float0 rfl (fun _ _ => p_len (by rfl) rfl) rfl ?_
        refine m_call (Hin := []) (Hr := ?hr2) (R := ?rr2) rfl wantedN rfl rfl rfl ?hin2 ?hc2 ?hk2
        case hin2 => repeat' (first | exact Cover.nil | exact Take.here | apply Cover.cons | apply Take.there)
        case hc2 => intro ρ' hρ hR; exact run_ok i.2.2.2.1 y.2.1.length hi hcil
        rintro _ _ ⟨b37, c37, rfl, rfl⟩
        refine ⟨.none (by kernel_rfl), ?_⟩
        refine m_float0 rfl (fun _ _ => p_assign rfl) rfl ?_
        refine m_nil ?_
        refine g_qb <| g_qn ?_
        first | (obtain rfl : R = [i.2.2.1] := hR.trans (if_pos (by omega)); refine g_fold (e := 3) (size := 1) (g := b14) (k := 1) (cap := 1) (cur := [.int .i64 i.2.2.1]) (xs := ([i.2.2.1] : List Int).map encI) (by repeat' (first | exact Take.here | apply Take.there)) (by decide) (by decide) rfl rfl ?_; exact g_joinedA (some ⟨b14, 0, none⟩, 1) trivial) | (obtain rfl : R = [i.2.2.1, i.2.2.2.1] := hR.trans ((if_neg (by omega)).trans (if_pos (by omega))); refine g_fold (e := 3) (size := 1) (g := b21) (k := 2) (cap := 2) (cur := [.int .i64 i.2.2.1, .int .i64 i.2.2.2.1]) (xs := ([i.2.2.1, i.2.2.2.1] : List Int).map encI) (by repeat' (first | exact Take.here | apply Take.there)) (by decide) (by decide) rfl rfl ?_; exact g_joinedA (some ⟨b21, 0, none⟩, 2) trivial) | (obtain rfl : R = [i.2.1] := hR.trans ((if_neg (by omega)).trans ((if_neg (by omega)).trans (if_pos (by omega)))); refine g_fold (e := 3) (size := 1) (g := b26) (k := 1) (cap := 1) (cur := [.int .i64 i.2.1]) (xs := ([i.2.1] : List Int).map encI) (by repeat' (first | exact Take.here | apply Take.there)) (by decide) (by decide) rfl rfl ?_; exact g_joinedA (some ⟨b26, 0, none⟩, 1) trivial) | (obtain rfl : R = runP i.2.2.2.1 y.2.1.length := hR.trans ((if_neg (by omega)).trans ((if_neg (by omega)).trans ((if_neg (by omega)).trans (if_pos (by omega))))); exact g_joinedA (b37, c37) trivial) | (obtain rfl : R = [] := hR.trans ((if_neg (by omega)).trans ((if_neg (by omega)).trans ((if_neg (by omega)).trans (if_neg (by omega))))); refine g_ownnil (e := 3) (size := 1) ?_; exact g_joinedA (none, 0) trivial) | (exfalso; omega)
       ·refine g_skip <| g_qb <| g_qn ?_
        first | (obtain rfl : R = [i.2.2.1] := hR.trans (if_pos (by omega)); refine g_fold (e := 3) (size := 1) (g := b14) (k := 1) (cap := 1) (cur := [.int .i64 i.2.2.1]) (xs := ([i.2.2.1] : List Int).map encI) (by repeat' (first | exact Take.here | apply Take.there)) (by decide) (by decide) rfl rfl ?_; exact g_joinedA (some ⟨b14, 0, none⟩, 1) trivial) | (obtain rfl : R = [i.2.2.1, i.2.2.2.1] := hR.trans ((if_neg (by omega)).trans (if_pos (by omega))); refine g_fold (e := 3) (size := 1) (g := b21) (k := 2) (cap := 2) (cur := [.int .i64 i.2.2.1, .int .i64 i.2.2.2.1]) (xs := ([i.2.2.1, i.2.2.2.1] : List Int).map encI) (by repeat' (first | exact Take.here | apply Take.there)) (by decide) (by decide) rfl rfl ?_; exact g_joinedA (some ⟨b21, 0, none⟩, 2) trivial) | (obtain rfl : R = [i.2.1] := hR.trans ((if_neg (by omega)).trans ((if_neg (by omega)).trans (if_pos (by omega)))); refine g_fold (e := 3) (size := 1) (g := b26) (k := 1) (cap := 1) (cur := [.int .i64 i.2.1]) (xs := ([i.2.1] : List Int).map encI) (by repeat' (first | exact Take.here | apply Take.there)) (by decide) (by decide) rfl rfl ?_; exact g_joinedA (some ⟨b26, 0, none⟩, 1) trivial) | (obtain rfl : R = runP i.2.2.2.1 y.2.1.length := hR.trans ((if_neg (by omega)).trans ((if_neg (by omega)).trans ((if_neg (by omega)).trans (if_pos (by omega))))); exact g_joinedA (b37, c37) trivial) | (obtain rfl : R = [] := hR.trans ((if_neg (by omega)).trans ((if_neg (by omega)).trans ((if_neg (by omega)).trans (if_neg (by omega))))); refine g_ownnil (e := 3) (size := 1) ?_; exact g_joinedA (none, 0) trivial) | (exfalso; omega)
 rintro ⟨oa, oc⟩ _
 refine g_qt <| g_seq <| g_region ?_
 refine g_mv ?_
 refine g_call (Hin := ?hi3) (Hr := ?hr3) (R := ?rr3) rfl rfl rfl ?hin3 ?hc3 ?hk3
 case hc3 => intro ρ' hρ hR; exact sort_ok oa oc R (by omega)
 case hin3 => repeat' (first | exact Cover.nil | exact Take.here | apply Cover.cons | apply Take.there)
 rintro _ _ ⟨rfl, rfl⟩
 have hsl : (R.mergeSort leI).length = R.length := List.length_mergeSort ..
 rw [← hsl]
 refine g_nil <| g_qt <| g_seq <| g_region ?_
 refine g_mv ?_
 refine g_call (Hin := ?hi4) (Hr := ?hr4) (R := ?rr4) rfl rfl rfl ?hin4 ?hc4 ?hk4
 case hc4 => intro ρ' hρ hR; exact compact_ok oa oc (R.mergeSort leI) (by omega)
 case hin4 => repeat' (first | exact Cover.nil | exact Take.here | apply Cover.cons | apply Take.there)
 rintro _ _ ⟨rfl, rfl⟩
 refine g_as ?_
 refine g_nil <| g_qt <| g_ret ?_
 exact g_postA (rs := [.tmp 4]) rfl (.tmp rfl .nil) ⟨oa, oc, rfl, rfl⟩
theorem setsA_ok {ρ : Nat → Obj → Prop} {ea ra : Option Addr} {ec rc : Nat} {im : Im} (h : ImI ρ ea ra im) (i : Ins) (hi : bigI i.2.2.2.2) :
  Con Tryz.prog ρ 19 #[.agg #[.slice ea im.1.length ec, .slice ra im.2.length rc], .agg (encIns i).toArray] []
  (fun v H => ∃ a c, v = .slice a (setsP im.2 i).length c ∧ H = [OwnSl 3 1 a (setsP im.2 i).length c ((setsP im.2 i).map encI)]) := by
 have hcok := calledP_len h.ok i.2.1
 have hcol := hcok.ol
 obtain ⟨y, hy⟩ : ∃ y, calledP im.2 i.2.1 = y := ⟨_, rfl⟩
 rw [hy] at hcol
 have hR : setsP im.2 i = if i.1 = 1 ∨ i.1 = 2 ∨ i.1 = 3 ∨ i.1 = 5 ∨ i.1 = 6 then [i.2.1] else if i.1 = 9 then runP i.2.2.2.2 y.2.2.1.length else [] := by unfold setsP; rw [hy]
 generalize setsP im.2 i = R at hR ⊢
 refine con_intro Tryz.func19 Tryz.call19 rfl Tryz.ntmps19 rfl (L := [(0, _), (1, _)]) rfl fun w hh => ?_
 refine g_seq <| g_region ?_
 refine g_eff (e_box rfl (by rfl)) rfl (fun _ _ => ?_)
 rintro ⟨b2, rfl, rfl⟩
 refine g_eff (e_box rfl (by rfl)) rfl (fun _ _ => ?_)
 rintro ⟨b3, rfl, rfl⟩
 refine g_as ?_
 refine g_nil <| g_qt <| g_seq <| g_seq <| g_region ?_
 refine g_fa ?_
 refine g_ld ?_
 refine g_nil <| g_qt <| g_block <| g_seq <| g_seq <| g_region ?_
 refine g_pure (p_eql rfl rfl) rfl ?_
 refine g_as ?_
 refine g_nil <| g_qt ?_
 refine g_ifdL rfl (fun h1 => ?_) (fun h1 => ?_)
 ·refine g_skip <| g_qt ?_
  refine g_ift rfl ?_
  refine g_seq <| g_region ?_
  refine g_fa ?_
  refine g_ld ?_
  refine g_eff (e_bs (xs := [.tmp 14]) rfl rfl rfl (by rfl) (by rfl) rfl (by rfl)) rfl (fun _ _ => ?_)
  rintro ⟨b15, rfl, rfl⟩
  refine g_as ?_
  refine g_nil <| g_qt <| g_ret <| g_qb_ret <| g_qt_ret ?_
  first | (obtain rfl : R = [i.2.1] := hR.trans (if_pos (by omega)); refine g_fold (e := 3) (size := 1) (g := b15) (k := 1) (cap := 1) (cur := [.int .i64 i.2.1]) (xs := ([i.2.1] : List Int).map encI) (by repeat' (first | exact Take.here | apply Take.there)) (by decide) (by decide) rfl rfl ?_; exact g_postA (rs := [.tmp 4]) rfl (.tmp rfl .nil) ⟨some ⟨b15, 0, none⟩, 1, rfl, rfl⟩) | (obtain rfl : R = runP i.2.2.2.2 y.2.2.1.length := hR.trans ((if_neg (by omega)).trans (if_pos (by omega))); exact g_postA (rs := [.tmp 4]) rfl (.tmp rfl .nil) ⟨b26, c26, rfl, rfl⟩) | (obtain rfl : R = [] := hR.trans ((if_neg (by omega)).trans (if_neg (by omega))); refine g_ownnil (e := 3) (size := 1) ?_; exact g_postA (rs := [.tmp 4]) rfl (.tmp rfl .nil) ⟨none, 0, rfl, rfl⟩) | (exfalso; omega)
 ·refine g_seq <| g_region ?_
  refine g_pure (p_eql rfl rfl) rfl ?_
  refine g_as ?_
  refine g_nil <| g_qt ?_
  refine g_ifdL rfl (fun h3 => ?_) (fun h3 => ?_)
  ·refine g_skip <| g_qt ?_
   refine g_ift rfl ?_
   refine g_seq <| g_region ?_
   refine g_fa ?_
   refine g_ld ?_
   refine g_eff (e_bs (xs := [.tmp 14]) rfl rfl rfl (by rfl) (by rfl) rfl (by rfl)) rfl (fun _ _ => ?_)
   rintro ⟨b15, rfl, rfl⟩
   refine g_as ?_
   refine g_nil <| g_qt <| g_ret <| g_qb_ret <| g_qt_ret ?_
   first | (obtain rfl : R = [i.2.1] := hR.trans (if_pos (by omega)); refine g_fold (e := 3) (size := 1) (g := b15) (k := 1) (cap := 1) (cur := [.int .i64 i.2.1]) (xs := ([i.2.1] : List Int).map encI) (by repeat' (first | exact Take.here | apply Take.there)) (by decide) (by decide) rfl rfl ?_; exact g_postA (rs := [.tmp 4]) rfl (.tmp rfl .nil) ⟨some ⟨b15, 0, none⟩, 1, rfl, rfl⟩) | (obtain rfl : R = runP i.2.2.2.2 y.2.2.1.length := hR.trans ((if_neg (by omega)).trans (if_pos (by omega))); exact g_postA (rs := [.tmp 4]) rfl (.tmp rfl .nil) ⟨b26, c26, rfl, rfl⟩) | (obtain rfl : R = [] := hR.trans ((if_neg (by omega)).trans (if_neg (by omega))); refine g_ownnil (e := 3) (size := 1) ?_; exact g_postA (rs := [.tmp 4]) rfl (.tmp rfl .nil) ⟨none, 0, rfl, rfl⟩) | (exfalso; omega)
  ·refine g_seq <| g_region ?_
   refine g_pure (p_eql rfl rfl) rfl ?_
   refine g_as ?_
   refine g_nil <| g_qt ?_
   refine g_ifdL rfl (fun h5 => ?_) (fun h5 => ?_)
   ·refine g_skip <| g_qt ?_
    refine g_ift rfl ?_
    refine g_seq <| g_region ?_
    refine g_fa ?_
    refine g_ld ?_
    refine g_eff (e_bs (xs := [.tmp 14]) rfl rfl rfl (by rfl) (by rfl) rfl (by rfl)) rfl (fun _ _ => ?_)
    rintro ⟨b15, rfl, rfl⟩
    refine g_as ?_
    refine g_nil <| g_qt <| g_ret <| g_qb_ret <| g_qt_ret ?_
    first | (obtain rfl : R = [i.2.1] := hR.trans (if_pos (by omega)); refine g_fold (e := 3) (size := 1) (g := b15) (k := 1) (cap := 1) (cur := [.int .i64 i.2.1]) (xs := ([i.2.1] : List Int).map encI) (by repeat' (first | exact Take.here | apply Take.there)) (by decide) (by decide) rfl rfl ?_; exact g_postA (rs := [.tmp 4]) rfl (.tmp rfl .nil) ⟨some ⟨b15, 0, none⟩, 1, rfl, rfl⟩) | (obtain rfl : R = runP i.2.2.2.2 y.2.2.1.length := hR.trans ((if_neg (by omega)).trans (if_pos (by omega))); exact g_postA (rs := [.tmp 4]) rfl (.tmp rfl .nil) ⟨b26, c26, rfl, rfl⟩) | (obtain rfl : R = [] := hR.trans ((if_neg (by omega)).trans (if_neg (by omega))); refine g_ownnil (e := 3) (size := 1) ?_; exact g_postA (rs := [.tmp 4]) rfl (.tmp rfl .nil) ⟨none, 0, rfl, rfl⟩) | (exfalso; omega)
   ·refine g_seq <| g_region ?_
    refine g_pure (p_eql rfl rfl) rfl ?_
    refine g_as ?_
    refine g_nil <| g_qt ?_
    refine g_ifdL rfl (fun h7 => ?_) (fun h7 => ?_)
    ·refine g_skip <| g_qt ?_
     refine g_ift rfl ?_
     refine g_seq <| g_region ?_
     refine g_fa ?_
     refine g_ld ?_
     refine g_eff (e_bs (xs := [.tmp 14]) rfl rfl rfl (by rfl) (by rfl) rfl (by rfl)) rfl (fun _ _ => ?_)
     rintro ⟨b15, rfl, rfl⟩
     refine g_as ?_
     refine g_nil <| g_qt <| g_ret <| g_qb_ret <| g_qt_ret ?_
     first | (obtain rfl : R = [i.2.1] := hR.trans (if_pos (by omega)); refine g_fold (e := 3) (size := 1) (g := b15) (k := 1) (cap := 1) (cur := [.int .i64 i.2.1]) (xs := ([i.2.1] : List Int).map encI) (by repeat' (first | exact Take.here | apply Take.there)) (by decide) (by decide) rfl rfl ?_; exact g_postA (rs := [.tmp 4]) rfl (.tmp rfl .nil) ⟨some ⟨b15, 0, none⟩, 1, rfl, rfl⟩) | (obtain rfl : R = runP i.2.2.2.2 y.2.2.1.length := hR.trans ((if_neg (by omega)).trans (if_pos (by omega))); exact g_postA (rs := [.tmp 4]) rfl (.tmp rfl .nil) ⟨b26, c26, rfl, rfl⟩) | (obtain rfl : R = [] := hR.trans ((if_neg (by omega)).trans (if_neg (by omega))); refine g_ownnil (e := 3) (size := 1) ?_; exact g_postA (rs := [.tmp 4]) rfl (.tmp rfl .nil) ⟨none, 0, rfl, rfl⟩) | (exfalso; omega)
    ·refine g_region ?_
     refine g_pure (p_eql rfl rfl) rfl ?_
     refine g_as ?_
     refine g_nil <| g_qt ?_
     refine g_ifdL rfl (fun h9 => ?_) (fun h9 => ?_)
     ·refine g_seq <| g_region ?_
      refine g_fa ?_
      refine g_ld ?_
      refine g_eff (e_bs (xs := [.tmp 14]) rfl rfl rfl (by rfl) (by rfl) rfl (by rfl)) rfl (fun _ _ => ?_)
      rintro ⟨b15, rfl, rfl⟩
      refine g_as ?_
      refine g_nil <| g_qt <| g_ret <| g_qb_ret <| g_qt_ret ?_
      first | (obtain rfl : R = [i.2.1] := hR.trans (if_pos (by omega)); refine g_fold (e := 3) (size := 1) (g := b15) (k := 1) (cap := 1) (cur := [.int .i64 i.2.1]) (xs := ([i.2.1] : List Int).map encI) (by repeat' (first | exact Take.here | apply Take.there)) (by decide) (by decide) rfl rfl ?_; exact g_postA (rs := [.tmp 4]) rfl (.tmp rfl .nil) ⟨some ⟨b15, 0, none⟩, 1, rfl, rfl⟩) | (obtain rfl : R = runP i.2.2.2.2 y.2.2.1.length := hR.trans ((if_neg (by omega)).trans (if_pos (by omega))); exact g_postA (rs := [.tmp 4]) rfl (.tmp rfl .nil) ⟨b26, c26, rfl, rfl⟩) | (obtain rfl : R = [] := hR.trans ((if_neg (by omega)).trans (if_neg (by omega))); refine g_ownnil (e := 3) (size := 1) ?_; exact g_postA (rs := [.tmp 4]) rfl (.tmp rfl .nil) ⟨none, 0, rfl, rfl⟩) | (exfalso; omega)
     ·refine g_seq <| g_region ?_
      refine g_pure (p_eql rfl rfl) rfl ?_
      refine g_as ?_
      refine g_nil <| g_qt ?_
      refine g_ifdL rfl (fun h10 => ?_) (fun h10 => ?_)
      ·refine g_seq ?_
       refine m_begin0 (.fl 0 0 (.fl 1 1 (.fl 2 1 (.fl 3 0 (.fl 4 1 (.ef 5 (.fl 6 0 (.fl 7 0 (.ef 8 (.fl 9 0 .done)))))))))) (by kernel_rfl) (by kernel_rfl) ?_
       refine m_float0 rfl (fun _ _ => p_fieldAddr rfl) rfl ?_
       refine m_float rfl (p_loadA) rfl ?_
       first | refine m_float rfl (p_loadO (by rfl) rfl (by first | (apply Has.own; (repeat' (first | exact Take.here | apply Take.there)); done) | exact Has.ro (by assumption)) (by rfl)) rfl ?_ | refine m_float rfl (p_loadN (by rfl) rfl (by first | (apply Has.own; (repeat' (first | exact Take.here | apply Take.there)); done) | exact Has.ro (by assumption)) (by first | rfl | assumption)) rfl ?_
       refine m_float0 rfl (fun _ _ => p_fieldAddr rfl) rfl ?_
       refine m_float rfl (p_loadA) rfl ?_
       refine m_call (Hin := []) (Hr := ?hr5) (R := ?rr5) rfl wantedN rfl rfl rfl ?hin5 ?hc5 ?hk5
       case hin5 => repeat' (first | exact Cover.nil | exact Take.here | apply Cover.cons | apply Take.there)
       case hc5 => intro ρ' hρ hR; exact called_at (ec := ec) (rc := rc) (h.mono hρ) i.2.1 hy
       rintro _ _ ⟨ja, jc, pa, pc, qa, qc, sa, sc, rfl, rfl⟩
       refine ⟨.some (by repeat' (first | exact Cover.nil | exact Take.here | apply Cover.cons | apply Take.there)), ?_⟩
       refine m_float0 rfl (fun _ _ => p_fieldV Tryz.underlying45 rfl ty22 rfl rfl rfl) rfl ?_
       refine m_float0 rfl (fun _ _ => p_len (by rfl) rfl) rfl ?_
       refine m_call (Hin := []) (Hr := ?hr6) (R := ?rr6) rfl wantedN rfl rfl rfl ?hin6 ?hc6 ?hk6
       case hin6 => repeat' (first | exact Cover.nil | exact Take.here | apply Cover.cons | apply Take.there)
       case hc6 => intro ρ' hρ hR; exact run_ok i.2.2.2.2 y.2.2.1.length hi hcol
       rintro _ _ ⟨b26, c26, rfl, rfl⟩
       refine ⟨.none (by kernel_rfl), ?_⟩
       refine m_float0 rfl (fun _ _ => p_assign rfl) rfl ?_
       refine m_nil ?_
       refine g_qt <| g_ret <| g_qb_ret <| g_qt_ret ?_
       first | (obtain rfl : R = [i.2.1] := hR.trans (if_pos (by omega)); refine g_fold (e := 3) (size := 1) (g := b15) (k := 1) (cap := 1) (cur := [.int .i64 i.2.1]) (xs := ([i.2.1] : List Int).map encI) (by repeat' (first | exact Take.here | apply Take.there)) (by decide) (by decide) rfl rfl ?_; exact g_postA (rs := [.tmp 4]) rfl (.tmp rfl .nil) ⟨some ⟨b15, 0, none⟩, 1, rfl, rfl⟩) | (obtain rfl : R = runP i.2.2.2.2 y.2.2.1.length := hR.trans ((if_neg (by omega)).trans (if_pos (by omega))); exact g_postA (rs := [.tmp 4]) rfl (.tmp rfl .nil) ⟨b26, c26, rfl, rfl⟩) | (obtain rfl : R = [] := hR.trans ((if_neg (by omega)).trans (if_neg (by omega))); refine g_ownnil (e := 3) (size := 1) ?_; exact g_postA (rs := [.tmp 4]) rfl (.tmp rfl .nil) ⟨none, 0, rfl, rfl⟩) | (exfalso; omega)
      ·refine g_skip <| g_qb <| g_qt <| g_seq <| g_region ?_
       refine g_as ?_
       refine g_nil <| g_qt <| g_ret ?_
       first | (obtain rfl : R = [i.2.1] := hR.trans (if_pos (by omega)); refine g_fold (e := 3) (size := 1) (g := b15) (k := 1) (cap := 1) (cur := [.int .i64 i.2.1]) (xs := ([i.2.1] : List Int).map encI) (by repeat' (first | exact Take.here | apply Take.there)) (by decide) (by decide) rfl rfl ?_; exact g_postA (rs := [.tmp 4]) rfl (.tmp rfl .nil) ⟨some ⟨b15, 0, none⟩, 1, rfl, rfl⟩) | (obtain rfl : R = runP i.2.2.2.2 y.2.2.1.length := hR.trans ((if_neg (by omega)).trans (if_pos (by omega))); exact g_postA (rs := [.tmp 4]) rfl (.tmp rfl .nil) ⟨b26, c26, rfl, rfl⟩) | (obtain rfl : R = [] := hR.trans ((if_neg (by omega)).trans (if_neg (by omega))); refine g_ownnil (e := 3) (size := 1) ?_; exact g_postA (rs := [.tmp 4]) rfl (.tmp rfl .nil) ⟨none, 0, rfl, rfl⟩) | (exfalso; omega)
end Go.Proofs.YtcnfcoojmbjdlaaGreatDoor
/- Chapter 26: equality of images. Conditions: none. -/
namespace Go.Z.Asm
set_option maxRecDepth 8000
set_option linter.unusedVariables false
set_option linter.unusedSimpArgs false
set_option linter.unusedSectionVars false
open Go Go.Z Go.Lib
theorem take_eq_step {α : Type} {la lb : List α} {k : Nat} (h1 : k < la.length) (h2 : k < lb.length) (h : la.take k = lb.take k) (e : la[k] = lb[k]) : la.take (k + 1) = lb.take (k + 1) := by
 rw [List.take_add_one, List.take_add_one, h, List.getElem?_eq_getElem h1, List.getElem?_eq_getElem h2, e]
theorem mapI2 (c : List Int) {k : Nat} (hk : k < c.length) : (c.map encI)[k]? = some (.int .i64 c[k]) := mapI c hk
theorem getElem_ne {α : Type} {la lb : List α} {k : Nat} (h1 : k < la.length) (h2 : k < lb.length) (e : la[k] ≠ lb[k]) : la ≠ lb := fun h => by subst h; exact e rfl
end Go.Z.Asm
namespace Go.Proofs.YtcnfcoojmbjdlaaGreatDoor
set_option maxRecDepth 8000
set_option linter.unusedVariables false
set_option linter.unusedSimpArgs false
set_option linter.unusedSectionVars false
open Go Go.Z Go.Z.Asm

theorem eqIns (d : Nat) (x y : Ins) (w : World) : (Op.equalIn (d + 2) 32 (.agg (encIns x).toArray) (.agg (encIns y).toArray)).run Tryz.prog w = .ok (decide (x = y)) w := by
 obtain ⟨a1, a2, a3, a4, a5⟩ := x
 obtain ⟨c1, c2, c3, c4, c5⟩ := y
 have hf : Tryz.prog.fieldsOf 32 = match Tryz.t31.desc with | .struct fs => fs | _ => #[] := by kernel_rfl
 have hg : ∀ w, (isAgg 3).run Tryz.prog w = .ok false w := fun w => TyC.run_agg (ty3) w
 unfold encIns
 rw [run_equalIn_agg w (d + 1) _ _ _ (by kernel_rfl) (by kernel_rfl), hf]
 have hu : Tryz.prog.underlying 3 = some (.int .i64) := Tryz.underlying3
 simp only [Tryz.t31, Op.eqFields, part, Sem.run_bind, hg, Result.andThen_ok]
 by_cases h1 : a1 = c1
 ·by_cases h2 : a2 = c2
  ·by_cases h3 : a3 = c3
   ·by_cases h4 : a4 = c4
    ·by_cases h5 : a5 = c5 <;> simp [run_equalIn_int, hu, hg, h1, h2, h3, h4, h5]
    ·simp [run_equalIn_int, hu, hg, h1, h2, h3, h4]
   ·simp [run_equalIn_int, hu, hg, h1, h2, h3]
  ·simp [run_equalIn_int, hu, hg, h1, h2]
 ·simp [run_equalIn_int, hu, hg, h1]

theorem intsEq_ok {ρ : Nat → Obj → Prop} (a b : Option Addr) (ac bc : Nat) (la lb : List Int) (ha : RSl ρ 1 a la.length (la.map encI)) (hb : RSl ρ 1 b lb.length (lb.map encI)) (hl : la.length ≤ 9223372036854775807) :
  Con Tryz.prog ρ 29 #[.slice a la.length ac, .slice b lb.length bc] [] (fun v H => v = .bool (decide (la = lb)) ∧ H = []) := by
 obtain ⟨_, b1, o1, c1, T1, f1, hr1⟩ := ha
 obtain ⟨_, b2, o2, c2, T2, f2, hr2⟩ := hb
 refine con_intro Tryz.func29 Tryz.call29 rfl Tryz.ntmps29 rfl (L := [(0, _), (1, _)]) rfl fun w hh => ?_
 refine g_seq <| g_region ?_
 refine g_as ?_
 refine g_nil <| g_qt <| g_seq <| g_seq <| g_region ?_
 refine g_mv ?_
 refine g_pure (p_len (by rfl) rfl) rfl ?_
 refine g_mv ?_
 refine g_pure (p_len (by rfl) rfl) rfl ?_
 refine g_pure (p_neq rfl rfl) rfl ?_
 refine g_nil <| g_qt ?_
 refine g_ifnd rfl (fun h1 => ?_) (fun h1 => ?_)
 ·refine g_seq <| g_region ?_
  refine g_as ?_
  refine g_nil <| g_qt <| g_ret <| g_qt_ret ?_
  exact g_post (rs := [.tmp 4]) rfl (.tmp rfl .nil) ⟨by rw [decide_eq_false (p := la = lb) (fun h => h1 (by rw [h]))]; rfl, rfl⟩ .nil
 ·have hll : la.length = lb.length := by omega
  refine g_skip <| g_qt <| g_seq <| g_seq <| g_region ?_
  refine g_mv ?_
  refine g_pure (p_len (by rfl) rfl) rfl ?_
  refine g_mv ?_
  refine g_nil <| g_qt <| g_block ?_
  refine g_loop (fun k : Nat => [(0, .slice a la.length ac), (1, .slice b lb.length bc), (12, .int .i64 la.length), (13, .int .i64 k)]) (fun _ => []) (fun k => k ≤ la.length ∧ la.take k = lb.take k) (fun k => la.length - k) 0 ⟨Nat.zero_le _, rfl⟩ (by (repeat (first | exact trivial | refine ⟨by rfl, ?_⟩)); done) .nil ?_
  rintro k ⟨hk1, hk2⟩
  refine g_seq <| g_region ?_
  refine g_pure (p_lss rfl rfl) rfl ?_
  refine g_nil <| g_qt <| g_seq ?_
  refine g_ifd rfl (fun q => ?_) (fun q => ?_)
  ·have hka : k < la.length := by omega
   have hkb : k < lb.length := by omega
   refine g_skip <| g_qt <| g_seq <| g_block <| g_seq <| g_region ?_
   refine g_mv ?_
   refine g_as ?_
   refine g_nil <| g_qt <| g_seq ?_
   refine m_begin0 (.fl 0 0 (.fl 1 0 (.fl 2 0 (.fl 3 1 (.fl 4 0 (.fl 5 0 (.fl 6 0 (.fl 7 1 (.fl 8 0 .done))))))))) (by kernel_rfl) (by kernel_rfl) ?_
   refine m_float0 rfl (fun _ _ => p_move rfl) rfl ?_
   refine m_float0 rfl (fun _ _ => p_move rfl) rfl ?_
   refine m_float0 rfl (fun _ _ => p_indexAddr rfl rfl (by omega) (fun _ => (hr1 (by omega)).1)) rfl ?_
   refine m_float rfl (p_load (v := .int .i64 la[k]) (by rfl) rfl (Has.ro (hr1 (by omega)).2.1) (by simpa using (hr1 (by omega)).2.2 k _ (mapI2 la hka))) rfl ?_
   refine m_float0 rfl (fun _ _ => p_move rfl) rfl ?_
   refine m_float0 rfl (fun _ _ => p_move rfl) rfl ?_
   refine m_float0 rfl (fun _ _ => p_indexAddr rfl rfl (by omega) (fun _ => (hr2 (by omega)).1)) rfl ?_
   refine m_float rfl (p_load (v := .int .i64 lb[k]) (by rfl) rfl (Has.ro (hr2 (by omega)).2.1) (by simpa using (hr2 (by omega)).2.2 k _ (mapI2 lb hkb))) rfl ?_
   refine m_float0 rfl (fun _ _ => p_neq rfl rfl) rfl ?_
   refine m_nil ?_
   refine g_qt ?_
   refine g_ifnd rfl (fun h2 => ?_) (fun h2 => ?_)
   ·refine g_seq <| g_region ?_
    refine g_as ?_
    refine g_nil <| g_qt <| g_ret <| g_qb_ret <| g_qt_ret <| g_qn_ret <| g_qb_ret <| g_qt_ret ?_
    exact g_post (rs := [.tmp 4]) rfl (.tmp rfl .nil) ⟨by rw [decide_eq_false (p := la = lb) (getElem_ne hka hkb h2)]; rfl, rfl⟩ .nil
   ·have h2' : la[k] = lb[k] := h2
    refine g_skip <| g_qb <| g_qt <| g_region ?_
    first | refine g_pure (p_addi rfl rfl (by omega)) rfl ?_ | refine g_pure (p_add rfl rfl) rfl ?_
    refine g_mv ?_
    refine g_nil <| g_qn ?_
    exact g_next (k + 1) (by (repeat (first | exact trivial | refine ⟨by rfl, ?_⟩)); done) .nil ⟨hka, take_eq_step hka hkb hk2 h2'⟩ (by omega)
  ·rw [List.take_of_length_le (by omega), List.take_of_length_le (by omega)] at hk2
   refine g_exit <| g_qt_exit <| g_qn_exit <| g_qb_exit <| g_qt <| g_seq <| g_region ?_
   refine g_as ?_
   refine g_nil <| g_qt <| g_ret ?_
   exact g_post (rs := [.tmp 4]) rfl (.tmp rfl .nil) ⟨by rw [decide_eq_true hk2]; rfl, rfl⟩ .nil

theorem Ints_ok {ρ : Nat → Obj → Prop} (a b : Option Addr) (ac bc : Nat) (la lb : List Int) (ha : RSl ρ 1 a la.length (la.map encI)) (hb : RSl ρ 1 b lb.length (lb.map encI)) (hl : la.length ≤ 9223372036854775807) :
  Con Tryz.prog ρ 16 #[.slice a la.length ac, .slice b lb.length bc] [] (fun v H => v = .bool (decide (la = lb)) ∧ H = []) := by
 obtain ⟨_, b1, o1, c1, T1, f1, hr1⟩ := ha
 obtain ⟨_, b2, o2, c2, T2, f2, hr2⟩ := hb
 refine con_intro Tryz.func16 Tryz.call16 rfl Tryz.ntmps16 rfl (L := [(0, _), (1, _)]) rfl fun w hh => ?_
 refine g_seq <| g_region ?_
 refine g_as ?_
 refine g_nil <| g_qt <| g_seq <| g_seq <| g_region ?_
 refine g_mv ?_
 refine g_pure (p_len (by rfl) rfl) rfl ?_
 refine g_mv ?_
 refine g_pure (p_len (by rfl) rfl) rfl ?_
 refine g_pure (p_neq rfl rfl) rfl ?_
 refine g_nil <| g_qt ?_
 refine g_ifnd rfl (fun h1 => ?_) (fun h1 => ?_)
 ·refine g_seq <| g_region ?_
  refine g_as ?_
  refine g_nil <| g_qt <| g_ret <| g_qt_ret ?_
  exact g_post (rs := [.tmp 4]) rfl (.tmp rfl .nil) ⟨by rw [decide_eq_false (p := la = lb) (fun h => h1 (by rw [h]))]; rfl, rfl⟩ .nil
 ·have hll : la.length = lb.length := by omega
  refine g_skip <| g_qt <| g_seq <| g_seq <| g_region ?_
  refine g_as ?_
  refine g_nil <| g_qt <| g_block ?_
  refine g_loop (fun k : Nat => [(0, .slice a la.length ac), (1, .slice b lb.length bc), (5, .int .i64 k)]) (fun _ => []) (fun k => k ≤ la.length ∧ la.take k = lb.take k) (fun k => la.length - k) 0 ⟨Nat.zero_le _, rfl⟩ (by (repeat (first | exact trivial | refine ⟨by rfl, ?_⟩)); done) .nil ?_
  rintro k ⟨hk1, hk2⟩
  refine g_seq <| g_seq <| g_region ?_
  refine g_mv ?_
  refine g_mv ?_
  refine g_pure (p_len (by rfl) rfl) rfl ?_
  refine g_pure (p_lss rfl rfl) rfl ?_
  refine g_nil <| g_qt ?_
  refine g_ifd rfl (fun q => ?_) (fun q => ?_)
  ·have hka : k < la.length := by omega
   have hkb : k < lb.length := by omega
   refine g_skip <| g_qt <| g_seq <| g_block <| g_seq ?_
   refine m_begin0 (.fl 0 0 (.fl 1 0 (.fl 2 0 (.fl 3 1 (.fl 4 0 (.fl 5 0 (.fl 6 0 (.fl 7 1 (.fl 8 0 .done))))))))) (by kernel_rfl) (by kernel_rfl) ?_
   refine m_float0 rfl (fun _ _ => p_move rfl) rfl ?_
   refine m_float0 rfl (fun _ _ => p_move rfl) rfl ?_
   refine m_float0 rfl (fun _ _ => p_indexAddr rfl rfl (by omega) (fun _ => (hr1 (by omega)).1)) rfl ?_
   refine m_float rfl (p_load (v := .int .i64 la[k]) (by rfl) rfl (Has.ro (hr1 (by omega)).2.1) (by simpa using (hr1 (by omega)).2.2 k _ (mapI2 la hka))) rfl ?_
   refine m_float0 rfl (fun _ _ => p_move rfl) rfl ?_
   refine m_float0 rfl (fun _ _ => p_move rfl) rfl ?_
   refine m_float0 rfl (fun _ _ => p_indexAddr rfl rfl (by omega) (fun _ => (hr2 (by omega)).1)) rfl ?_
   refine m_float rfl (p_load (v := .int .i64 lb[k]) (by rfl) rfl (Has.ro (hr2 (by omega)).2.1) (by simpa using (hr2 (by omega)).2.2 k _ (mapI2 lb hkb))) rfl ?_
   refine m_float0 rfl (fun _ _ => p_neq rfl rfl) rfl ?_
   refine m_nil ?_
   refine g_qt ?_
   refine g_ifnd rfl (fun h2 => ?_) (fun h2 => ?_)
   ·refine g_seq <| g_region ?_
    refine g_as ?_
    refine g_nil <| g_qt <| g_ret <| g_qb_ret <| g_qt_ret <| g_qn_ret <| g_qb_ret <| g_qt_ret ?_
    exact g_post (rs := [.tmp 4]) rfl (.tmp rfl .nil) ⟨by rw [decide_eq_false (p := la = lb) (getElem_ne hka hkb h2)]; rfl, rfl⟩ .nil
   ·have h2' : la[k] = lb[k] := h2
    refine g_skip <| g_qb <| g_qt <| g_region ?_
    refine g_mv ?_
    first | refine g_pure (p_addi rfl rfl (by omega)) rfl ?_ | refine g_pure (p_add rfl rfl) rfl ?_
    refine g_as ?_
    refine g_nil <| g_qn ?_
    exact g_next (k + 1) (by (repeat (first | exact trivial | refine ⟨by rfl, ?_⟩)); done) .nil ⟨hka, take_eq_step hka hkb hk2 h2'⟩ (by omega)
  ·rw [List.take_of_length_le (by omega), List.take_of_length_le (by omega)] at hk2
   refine g_exit <| g_qt_exit <| g_qn_exit <| g_qb_exit <| g_qt <| g_seq <| g_region ?_
   refine g_as ?_
   refine g_nil <| g_qt <| g_ret ?_
   exact g_post (rs := [.tmp 4]) rfl (.tmp rfl .nil) ⟨by rw [decide_eq_true hk2]; rfl, rfl⟩ .nil

theorem codeEq_ok {ρ : Nat → Obj → Prop} (a b : Option Addr) (ac bc : Nat) (la lb : List Ins) (ha : RSl ρ 5 a la.length (la.flatMap encIns)) (hb : RSl ρ 5 b lb.length (lb.flatMap encIns)) (hl : la.length ≤ 17592186044416) :
  Con Tryz.prog ρ 55 #[.slice a la.length ac, .slice b lb.length bc] [] (fun v H => v = .bool (decide (la = lb)) ∧ H = []) := by
 obtain ⟨b1, o1, c1, T1, f1, hr1⟩ := RSl.row encIns_len ha
 obtain ⟨b2, o2, c2, T2, f2, hr2⟩ := RSl.row encIns_len hb
 refine con_intro Tryz.func55 Tryz.call55 rfl Tryz.ntmps55 rfl (L := [(0, _), (1, _)]) rfl fun w hh => ?_
 refine g_seq <| g_region ?_
 refine g_as ?_
 refine g_nil <| g_qt <| g_seq <| g_seq <| g_region ?_
 refine g_mv ?_
 refine g_pure (p_len (by rfl) rfl) rfl ?_
 refine g_mv ?_
 refine g_pure (p_len (by rfl) rfl) rfl ?_
 refine g_pure (p_neq rfl rfl) rfl ?_
 refine g_nil <| g_qt ?_
 refine g_ifnd rfl (fun h1 => ?_) (fun h1 => ?_)
 ·refine g_seq <| g_region ?_
  refine g_as ?_
  refine g_nil <| g_qt <| g_ret <| g_qt_ret ?_
  exact g_post (rs := [.tmp 4]) rfl (.tmp rfl .nil) ⟨by rw [decide_eq_false (p := la = lb) (fun h => h1 (by rw [h]))]; rfl, rfl⟩ .nil
 ·have hll : la.length = lb.length := by omega
  refine g_skip <| g_qt <| g_seq <| g_seq <| g_region ?_
  refine g_mv ?_
  refine g_pure (p_len (by rfl) rfl) rfl ?_
  refine g_mv ?_
  refine g_nil <| g_qt <| g_block ?_
  refine g_loop (fun k : Nat => [(0, .slice a la.length ac), (1, .slice b lb.length bc), (12, .int .i64 la.length), (13, .int .i64 k)]) (fun _ => []) (fun k => k ≤ la.length ∧ la.take k = lb.take k) (fun k => la.length - k) 0 ⟨Nat.zero_le _, rfl⟩ (by (repeat (first | exact trivial | refine ⟨by rfl, ?_⟩)); done) .nil ?_
  rintro k ⟨hk1, hk2⟩
  refine g_seq <| g_region ?_
  refine g_pure (p_lss rfl rfl) rfl ?_
  refine g_nil <| g_qt <| g_seq ?_
  refine g_ifd rfl (fun q => ?_) (fun q => ?_)
  ·have hka : k < la.length := by omega
   have hkb : k < lb.length := by omega
   obtain ⟨p1, p2, p3⟩ := hr1 (by omega)
   obtain ⟨q1, q2, q3⟩ := hr2 (by omega)
   refine g_skip <| g_qt <| g_seq <| g_block <| g_seq <| g_region ?_
   refine g_mv ?_
   refine g_as ?_
   refine g_nil <| g_qt <| g_seq ?_
   refine m_begin0 (.fl 0 0 (.fl 1 0 (.fl 2 0 (.fl 3 1 (.fl 4 0 (.fl 5 0 (.fl 6 0 (.fl 7 1 (.fl 8 0 .done))))))))) (by kernel_rfl) (by kernel_rfl) ?_
   refine m_float0 rfl (fun _ _ => p_move rfl) rfl ?_
   refine m_float0 rfl (fun _ _ => p_move rfl) rfl ?_
   refine m_float0 rfl (fun _ _ => p_indexAddr rfl rfl (by omega) (fun _ => p1)) rfl ?_
   refine m_float rfl (p_loadN (by rfl) rfl (Has.ro p2) (by rw [Int.toNat_natCast]; exact (p3 k hka).1 (by decide))) rfl ?_
   refine m_float0 rfl (fun _ _ => p_move rfl) rfl ?_
   refine m_float0 rfl (fun _ _ => p_move rfl) rfl ?_
   refine m_float0 rfl (fun _ _ => p_indexAddr rfl rfl (by omega) (fun _ => q1)) rfl ?_
   refine m_float rfl (p_loadN (by rfl) rfl (Has.ro q2) (by rw [Int.toNat_natCast]; exact (q3 k hkb).1 (by decide))) rfl ?_
   refine m_float0 rfl (fun _ _ => p_neagg (eqIns 9998 la[k] lb[k]) (by kernel_rfl) rfl rfl) rfl ?_
   refine m_nil ?_
   refine g_qt ?_
   refine g_ifnd rfl (fun h2 => ?_) (fun h2 => ?_)
   ·refine g_seq <| g_region ?_
    refine g_as ?_
    refine g_nil <| g_qt <| g_ret <| g_qb_ret <| g_qt_ret <| g_qn_ret <| g_qb_ret <| g_qt_ret ?_
    exact g_post (rs := [.tmp 4]) rfl (.tmp rfl .nil) ⟨by rw [decide_eq_false (p := la = lb) (getElem_ne hka hkb h2)]; rfl, rfl⟩ .nil
   ·have h2' : la[k] = lb[k] := h2
    refine g_skip <| g_qb <| g_qt <| g_region ?_
    first | refine g_pure (p_addi rfl rfl (by omega)) rfl ?_ | refine g_pure (p_add rfl rfl) rfl ?_
    refine g_mv ?_
    refine g_nil <| g_qn ?_
    exact g_next (k + 1) (by (repeat (first | exact trivial | refine ⟨by rfl, ?_⟩)); done) .nil ⟨hka, take_eq_step hka hkb hk2 h2'⟩ (by omega)
  ·rw [List.take_of_length_le (by omega), List.take_of_length_le (by omega)] at hk2
   refine g_exit <| g_qt_exit <| g_qn_exit <| g_qb_exit <| g_qt <| g_seq <| g_region ?_
   refine g_as ?_
   refine g_nil <| g_qt <| g_ret ?_
   exact g_post (rs := [.tmp 4]) rfl (.tmp rfl .nil) ⟨by rw [decide_eq_true hk2]; rfl, rfl⟩ .nil
end Go.Proofs.YtcnfcoojmbjdlaaGreatDoor
/- Chapter 26: equality of images: the program's. Conditions: none. -/
namespace Go.Z.Asm
set_option maxRecDepth 8000
set_option linter.unusedVariables false
set_option linter.unusedSimpArgs false
set_option linter.unusedSectionVars false
open Go Go.Z Go.Lib
instance decIns : DecidableEq Ins := inferInstanceAs (DecidableEq (Int × Int × Int × Int × Int))
instance decR4 : DecidableEq (List Int × List Ins) := instDecidableEqProd
instance decR3 : DecidableEq (Int × List Int × List Ins) := instDecidableEqProd
instance decR2 : DecidableEq (List Int × Int × List Int × List Ins) := instDecidableEqProd
instance decR1 : DecidableEq (List Int × List Int × Int × List Int × List Ins) := instDecidableEqProd
instance decRt : DecidableEq Rt := instDecidableEqProd
instance decIm : DecidableEq Im := instDecidableEqProd
theorem rt_iff (x y : Rt) : x = y ↔ (strB x.1 = strB y.1 ∧ x.2.2.2.1 = y.2.2.2.1 ∧ x.2.1 = y.2.1 ∧ x.2.2.1 = y.2.2.1 ∧ x.2.2.2.2.1 = y.2.2.2.2.1 ∧ x.2.2.2.2.2 = y.2.2.2.2.2) := by
 obtain ⟨a, b, c, d, e, f⟩ := x
 obtain ⟨a', b', c', d', e', f'⟩ := y
 simp only [Prod.mk.injEq, strB_inj]
 exact ⟨fun ⟨h1, h2, h3, h4, h5, h6⟩ => ⟨h1, h4, h2, h3, h5, h6⟩, fun ⟨h1, h4, h2, h3, h5, h6⟩ => ⟨h1, h2, h3, h4, h5, h6⟩⟩
end Go.Z.Asm
namespace Go.Proofs.YtcnfcoojmbjdlaaGreatDoor
set_option maxRecDepth 8000
set_option linter.unusedVariables false
set_option linter.unusedSimpArgs false
set_option linter.unusedSectionVars false
open Go Go.Z Go.Z.Asm

theorem sameRt_ok {ρ : Nat → Obj → Prop} {rx ry : List Value} {x y : Rt} (hx : RtR ρ rx x) (hy : RtR ρ ry y) (kx : RtOk x) :
  Con Tryz.prog ρ 31 #[.agg rx.toArray, .agg ry.toArray] [] (fun v H => v = .bool (decide (x = y)) ∧ H = []) := by
 have hl1 := kx.il
 have hl2 := kx.ol
 have hl3 := kx.zl
 have hl4 := kx.cl
 have hiff := rt_iff x y
 obtain ⟨ia, ic, oa, oc, na, nc, ca, cc, rfl, p1, p2, p3, p4⟩ := hx
 obtain ⟨ia', ic', oa', oc', na', nc', ca', cc', rfl, g1, g2, g3, g4⟩ := hy
 refine con_intro Tryz.func31 Tryz.call31 rfl Tryz.ntmps31 rfl (L := [(0, _), (1, _)]) rfl fun w hh => ?_
 refine g_seq <| g_region ?_
 refine g_eff (e_box rfl (by rfl)) rfl (fun _ _ => ?_)
 rintro ⟨b2, rfl, rfl⟩
 refine g_eff (e_box rfl (by rfl)) rfl (fun _ _ => ?_)
 rintro ⟨b3, rfl, rfl⟩
 refine g_as ?_
 refine g_nil <| g_qt <| g_seq <| g_region ?_
 refine g_fa ?_
 refine g_ld ?_
 refine g_fa ?_
 refine g_ld ?_
 refine g_pure (p_eqls (i := strB x.1) (j := strB y.1) (by rfl) rfl rfl) rfl ?_
 refine g_mv ?_
 refine g_splitd rfl rfl (fun h1 => ?_) (fun h1 => ?_)
 ·refine g_yesA ?_
  refine g_fa ?_
  refine g_yesA ?_
  refine g_ld ?_
  refine g_yesA ?_
  refine g_fa ?_
  refine g_yesA ?_
  refine g_ld ?_
  refine g_yesA ?_
  refine g_pure (p_eql rfl rfl) rfl ?_
  first | refine g_pkt ?_ | refine g_pkf ?_
  refine g_mv ?_
  refine g_splitd rfl rfl (fun h2 => ?_) (fun h2 => ?_)
  ·refine g_yesA ?_
   refine g_fa ?_
   refine g_yesA ?_
   refine g_ld ?_
   refine g_yesA ?_
   refine g_fa ?_
   refine g_yesA ?_
   refine g_ld ?_
   refine g_yesA ?_
   refine g_call (Hin := []) (Hr := ?hr1) (R := ?rr1) rfl rfl rfl ?hin1 ?hc1 ?hk1
   case hin1 => repeat' (first | exact Cover.nil | exact Take.here | apply Cover.cons | apply Take.there)
   case hc1 => intro ρ' hρ hR; exact intsEq_ok ia ia' ic ic' x.2.1 y.2.1 (p1.mono hρ) (g1.mono hρ) (by omega)
   rintro _ _ ⟨rfl, rfl⟩
   first | refine g_pkt ?_ | refine g_pkf ?_
   refine g_mv ?_
   refine g_splitd rfl rfl (fun h3 => ?_) (fun h3 => ?_)
   ·refine g_yesA ?_
    refine g_fa ?_
    refine g_yesA ?_
    refine g_ld ?_
    refine g_yesA ?_
    refine g_fa ?_
    refine g_yesA ?_
    refine g_ld ?_
    refine g_yesA ?_
    refine g_call (Hin := []) (Hr := ?hr2) (R := ?rr2) rfl rfl rfl ?hin2 ?hc2 ?hk2
    case hin2 => repeat' (first | exact Cover.nil | exact Take.here | apply Cover.cons | apply Take.there)
    case hc2 => intro ρ' hρ hR; exact intsEq_ok oa oa' oc oc' x.2.2.1 y.2.2.1 (p2.mono hρ) (g2.mono hρ) (by omega)
    rintro _ _ ⟨rfl, rfl⟩
    first | refine g_pkt ?_ | refine g_pkf ?_
    refine g_mv ?_
    refine g_splitd rfl rfl (fun h4 => ?_) (fun h4 => ?_)
    ·refine g_yesA ?_
     refine g_fa ?_
     refine g_yesA ?_
     refine g_ld ?_
     refine g_yesA ?_
     refine g_fa ?_
     refine g_yesA ?_
     refine g_ld ?_
     refine g_yesA ?_
     refine g_call (Hin := []) (Hr := ?hr3) (R := ?rr3) rfl rfl rfl ?hin3 ?hc3 ?hk3
     case hin3 => repeat' (first | exact Cover.nil | exact Take.here | apply Cover.cons | apply Take.there)
     case hc3 => intro ρ' hρ hR; exact intsEq_ok na na' nc nc' x.2.2.2.2.1 y.2.2.2.2.1 (p3.mono hρ) (g3.mono hρ) (by omega)
     rintro _ _ ⟨rfl, rfl⟩
     first | refine g_pkt ?_ | refine g_pkf ?_
     refine g_mv ?_
     refine g_splitd rfl rfl (fun h5 => ?_) (fun h5 => ?_)
     ·refine g_yesA ?_
      refine g_fa ?_
      refine g_yesA ?_
      refine g_ld ?_
      refine g_yesA ?_
      refine g_fa ?_
      refine g_yesA ?_
      refine g_ld ?_
      refine g_yesA ?_
      refine g_call (Hin := []) (Hr := ?hr4) (R := ?rr4) rfl rfl rfl ?hin4 ?hc4 ?hk4
      case hin4 => repeat' (first | exact Cover.nil | exact Take.here | apply Cover.cons | apply Take.there)
      case hc4 => intro ρ' hρ hR; exact codeEq_ok ca ca' cc cc' x.2.2.2.2.2 y.2.2.2.2.2 (p4.mono hρ) (g4.mono hρ) (by omega)
      rintro _ _ ⟨rfl, rfl⟩
      first | refine g_pkt ?_ | refine g_pkf ?_
      refine g_as ?_
      refine g_nil <| g_qt <| g_ret ?_
      first | exact g_postA (rs := [.tmp 4]) rfl (.tmp rfl .nil) ⟨show Value.bool false = _ by (rw [decide_eq_false (p := x = y) (fun h => by obtain ⟨z1, z2, z3, z4, z5, z6⟩ := hiff.1 h; contradiction)]), rfl⟩ | exact g_postA (rs := [.tmp 4]) rfl (.tmp rfl .nil) ⟨show Value.bool (decide (x.2.2.2.2.2 = y.2.2.2.2.2)) = _ by (congr 1; rw [decide_eq_decide, hiff]; exact ⟨fun h => ⟨by assumption, by assumption, by assumption, by assumption, by assumption, h⟩, fun h => h.2.2.2.2.2⟩), rfl⟩
     ·refine g_noA ?_
      refine g_noA ?_
      refine g_noA ?_
      refine g_noA ?_
      refine g_noA ?_
      first | refine g_pkt ?_ | refine g_pkf ?_
      refine g_as ?_
      refine g_nil <| g_qt <| g_ret ?_
      first | exact g_postA (rs := [.tmp 4]) rfl (.tmp rfl .nil) ⟨show Value.bool false = _ by (rw [decide_eq_false (p := x = y) (fun h => by obtain ⟨z1, z2, z3, z4, z5, z6⟩ := hiff.1 h; contradiction)]), rfl⟩ | exact g_postA (rs := [.tmp 4]) rfl (.tmp rfl .nil) ⟨show Value.bool (decide (x.2.2.2.2.2 = y.2.2.2.2.2)) = _ by (congr 1; rw [decide_eq_decide, hiff]; exact ⟨fun h => ⟨by assumption, by assumption, by assumption, by assumption, by assumption, h⟩, fun h => h.2.2.2.2.2⟩), rfl⟩
    ·refine g_noA ?_
     refine g_noA ?_
     refine g_noA ?_
     refine g_noA ?_
     refine g_noA ?_
     first | refine g_pkt ?_ | refine g_pkf ?_
     refine g_mv ?_
     refine g_noA ?_
     refine g_noA ?_
     refine g_noA ?_
     refine g_noA ?_
     refine g_noA ?_
     first | refine g_pkt ?_ | refine g_pkf ?_
     refine g_as ?_
     refine g_nil <| g_qt <| g_ret ?_
     first | exact g_postA (rs := [.tmp 4]) rfl (.tmp rfl .nil) ⟨show Value.bool false = _ by (rw [decide_eq_false (p := x = y) (fun h => by obtain ⟨z1, z2, z3, z4, z5, z6⟩ := hiff.1 h; contradiction)]), rfl⟩ | exact g_postA (rs := [.tmp 4]) rfl (.tmp rfl .nil) ⟨show Value.bool (decide (x.2.2.2.2.2 = y.2.2.2.2.2)) = _ by (congr 1; rw [decide_eq_decide, hiff]; exact ⟨fun h => ⟨by assumption, by assumption, by assumption, by assumption, by assumption, h⟩, fun h => h.2.2.2.2.2⟩), rfl⟩
   ·refine g_noA ?_
    refine g_noA ?_
    refine g_noA ?_
    refine g_noA ?_
    refine g_noA ?_
    first | refine g_pkt ?_ | refine g_pkf ?_
    refine g_mv ?_
    refine g_noA ?_
    refine g_noA ?_
    refine g_noA ?_
    refine g_noA ?_
    refine g_noA ?_
    first | refine g_pkt ?_ | refine g_pkf ?_
    refine g_mv ?_
    refine g_noA ?_
    refine g_noA ?_
    refine g_noA ?_
    refine g_noA ?_
    refine g_noA ?_
    first | refine g_pkt ?_ | refine g_pkf ?_
    refine g_as ?_
    refine g_nil <| g_qt <| g_ret ?_
    first | exact g_postA (rs := [.tmp 4]) rfl (.tmp rfl .nil) ⟨show Value.bool false = _ by (rw [decide_eq_false (p := x = y) (fun h => by obtain ⟨z1, z2, z3, z4, z5, z6⟩ := hiff.1 h; contradiction)]), rfl⟩ | exact g_postA (rs := [.tmp 4]) rfl (.tmp rfl .nil) ⟨show Value.bool (decide (x.2.2.2.2.2 = y.2.2.2.2.2)) = _ by (congr 1; rw [decide_eq_decide, hiff]; exact ⟨fun h => ⟨by assumption, by assumption, by assumption, by assumption, by assumption, h⟩, fun h => h.2.2.2.2.2⟩), rfl⟩
  ·refine g_noA ?_
   refine g_noA ?_
   refine g_noA ?_
   refine g_noA ?_
   refine g_noA ?_
   first | refine g_pkt ?_ | refine g_pkf ?_
   refine g_mv ?_
   refine g_noA ?_
   refine g_noA ?_
   refine g_noA ?_
   refine g_noA ?_
   refine g_noA ?_
   first | refine g_pkt ?_ | refine g_pkf ?_
   refine g_mv ?_
   refine g_noA ?_
   refine g_noA ?_
   refine g_noA ?_
   refine g_noA ?_
   refine g_noA ?_
   first | refine g_pkt ?_ | refine g_pkf ?_
   refine g_mv ?_
   refine g_noA ?_
   refine g_noA ?_
   refine g_noA ?_
   refine g_noA ?_
   refine g_noA ?_
   first | refine g_pkt ?_ | refine g_pkf ?_
   refine g_as ?_
   refine g_nil <| g_qt <| g_ret ?_
   first | exact g_postA (rs := [.tmp 4]) rfl (.tmp rfl .nil) ⟨show Value.bool false = _ by (rw [decide_eq_false (p := x = y) (fun h => by obtain ⟨z1, z2, z3, z4, z5, z6⟩ := hiff.1 h; contradiction)]), rfl⟩ | exact g_postA (rs := [.tmp 4]) rfl (.tmp rfl .nil) ⟨show Value.bool (decide (x.2.2.2.2.2 = y.2.2.2.2.2)) = _ by (congr 1; rw [decide_eq_decide, hiff]; exact ⟨fun h => ⟨by assumption, by assumption, by assumption, by assumption, by assumption, h⟩, fun h => h.2.2.2.2.2⟩), rfl⟩
 ·refine g_noA ?_
  refine g_noA ?_
  refine g_noA ?_
  refine g_noA ?_
  refine g_noA ?_
  first | refine g_pkt ?_ | refine g_pkf ?_
  refine g_mv ?_
  refine g_noA ?_
  refine g_noA ?_
  refine g_noA ?_
  refine g_noA ?_
  refine g_noA ?_
  first | refine g_pkt ?_ | refine g_pkf ?_
  refine g_mv ?_
  refine g_noA ?_
  refine g_noA ?_
  refine g_noA ?_
  refine g_noA ?_
  refine g_noA ?_
  first | refine g_pkt ?_ | refine g_pkf ?_
  refine g_mv ?_
  refine g_noA ?_
  refine g_noA ?_
  refine g_noA ?_
  refine g_noA ?_
  refine g_noA ?_
  first | refine g_pkt ?_ | refine g_pkf ?_
  refine g_mv ?_
  refine g_noA ?_
  refine g_noA ?_
  refine g_noA ?_
  refine g_noA ?_
  refine g_noA ?_
  first | refine g_pkt ?_ | refine g_pkf ?_
  refine g_as ?_
  refine g_nil <| g_qt <| g_ret ?_
  first | exact g_postA (rs := [.tmp 4]) rfl (.tmp rfl .nil) ⟨show Value.bool false = _ by (rw [decide_eq_false (p := x = y) (fun h => by obtain ⟨z1, z2, z3, z4, z5, z6⟩ := hiff.1 h; contradiction)]), rfl⟩ | exact g_postA (rs := [.tmp 4]) rfl (.tmp rfl .nil) ⟨show Value.bool (decide (x.2.2.2.2.2 = y.2.2.2.2.2)) = _ by (congr 1; rw [decide_eq_decide, hiff]; exact ⟨fun h => ⟨by assumption, by assumption, by assumption, by assumption, by assumption, h⟩, fun h => h.2.2.2.2.2⟩), rfl⟩

theorem rts_at {ρ : Nat → Obj → Prop} {ra : Option Addr} {rts : List Rt} (h : RtsR ρ ra rts) : ∃ b off cs T fz, 0 < rts.length → ra = some ⟨b, off, none⟩ ∧ ρ b (.cells (cs : List Value).toArray T fz) ∧ ∀ k (hk : k < rts.length), ∃ row, RtR ρ row rts[k] ∧ sub cs (off + (k : Int).toNat * 6) 6 = some row := by
 by_cases h0 : 0 < rts.length
 ·obtain ⟨b, off, cs, T, fz, r1, r2, r3⟩ := h h0
  exact ⟨b, off, cs, T, fz, fun _ => ⟨r1, r2, fun k hk => let ⟨row, q1, q2, _⟩ := r3 k hk; ⟨row, q1, by rw [Int.toNat_natCast]; exact q2⟩⟩⟩
 ·exact ⟨0, 0, [], 0, (0, 0), fun h => absurd h h0⟩
theorem eqF_ok {ρ : Nat → Obj → Prop} (a b : Option Addr) (ac bc : Nat) (la lb : List Rt) (ha : RtsR ρ a la) (hb : RtsR ρ b lb) (hl : la.length ≤ 17592186044416) (hk : ∀ x ∈ la, RtOk x) :
  Con Tryz.prog ρ 30 #[.slice a la.length ac, .slice b lb.length bc, .func (.func 31) #[] #[]] [] (fun v H => v = .bool (decide (la = lb)) ∧ H = []) := by
 obtain ⟨b1, o1, c1, T1, f1, hr1⟩ := rts_at ha
 obtain ⟨b2, o2, c2, T2, f2, hr2⟩ := rts_at hb
 refine con_intro Tryz.func30 Tryz.call30 rfl Tryz.ntmps30 rfl (L := [(0, _), (1, _), (2, _)]) rfl fun w hh => ?_
 refine g_seq <| g_region ?_
 refine g_as ?_
 refine g_nil <| g_qt <| g_seq <| g_seq <| g_region ?_
 refine g_mv ?_
 refine g_pure (p_len (by rfl) rfl) rfl ?_
 refine g_mv ?_
 refine g_pure (p_len (by rfl) rfl) rfl ?_
 refine g_pure (p_neq rfl rfl) rfl ?_
 refine g_nil <| g_qt ?_
 refine g_ifnd rfl (fun h1 => ?_) (fun h1 => ?_)
 ·refine g_seq <| g_region ?_
  refine g_as ?_
  refine g_nil <| g_qt <| g_ret <| g_qt_ret ?_
  exact g_post (rs := [.tmp 6]) rfl (.tmp rfl .nil) ⟨by rw [decide_eq_false (p := la = lb) (fun h => h1 (by rw [h]))]; rfl, rfl⟩ .nil
 ·have hll : la.length = lb.length := by omega
  refine g_skip <| g_qt <| g_seq <| g_seq <| g_region ?_
  refine g_mv ?_
  refine g_pure (p_len (by rfl) rfl) rfl ?_
  refine g_mv ?_
  refine g_nil <| g_qt <| g_block ?_
  refine g_loop (fun k : Nat => [(1, .slice b lb.length bc), (2, .func (.func 31) #[] #[]), (15, .slice a la.length ac), (16, .int .i64 la.length), (17, .int .i64 k)]) (fun _ => []) (fun k => k ≤ la.length ∧ la.take k = lb.take k) (fun k => la.length - k) 0 ⟨Nat.zero_le _, rfl⟩ (by (repeat (first | exact trivial | refine ⟨by rfl, ?_⟩)); done) .nil ?_
  rintro k ⟨hk1, hk2⟩
  refine g_seq <| g_region ?_
  refine g_pure (p_lss rfl rfl) rfl ?_
  refine g_nil <| g_qt <| g_seq ?_
  refine g_ifd rfl (fun q => ?_) (fun q => ?_)
  ·have hka : k < la.length := by omega
   have hkb : k < lb.length := by omega
   obtain ⟨p1, p2, p3⟩ := hr1 (by omega)
   obtain ⟨q1, q2, q3⟩ := hr2 (by omega)
   obtain ⟨rx, x1, x2⟩ := p3 k hka
   obtain ⟨ry, y1, y2⟩ := q3 k hkb
   have hok := hk la[k] (List.getElem_mem hka)
   have hrx := x1
   have hry := y1
   obtain ⟨ia, ic, oa, oc, na, nc, ca, cc, rfl, _⟩ := x1
   obtain ⟨ia', ic', oa', oc', na', nc', ca', cc', rfl, _⟩ := y1
   refine g_skip <| g_qt <| g_seq <| g_block <| g_seq <| g_region ?_
   refine g_mv ?_
   refine g_pure (p_indexAddr rfl rfl (by omega) (fun _ => p1)) rfl ?_
   refine g_pure (p_loadN (by rfl) rfl (Has.ro p2) x2) rfl ?_
   refine g_eff (e_alloc (by rfl)) rfl (fun _ _ => ?_)
   rintro ⟨b8, rfl, rfl⟩
   refine g_as ?_
   first | refine g_eff0 (e_storeO rfl rfl (by rfl) (by rfl) (by rfl) (by repeat' (first | exact Take.here | apply Take.there)) (by rfl)) (fun _ _ => ?_) | refine g_eff0 (e_storeN rfl rfl (by rfl) (by rfl) (by rfl) (by repeat' (first | exact Take.here | apply Take.there)) (by simp)) (fun _ _ => ?_)
   rintro rfl
   refine g_nil <| g_qt <| g_seq <| g_region ?_
   refine g_mv ?_
   refine g_mv ?_
   refine g_pure (p_indexAddr rfl rfl (by omega) (fun _ => q1)) rfl ?_
   refine g_pure (p_loadN (by rfl) rfl (Has.ro q2) y2) rfl ?_
   refine g_eff (e_alloc (by rfl)) rfl (fun _ _ => ?_)
   rintro ⟨b9, rfl, rfl⟩
   first | refine g_eff0 (e_storeO rfl rfl (by rfl) (by rfl) (by rfl) (by repeat' (first | exact Take.here | apply Take.there)) (by rfl)) (fun _ _ => ?_) | refine g_eff0 (e_storeN rfl rfl (by rfl) (by rfl) (by rfl) (by repeat' (first | exact Take.here | apply Take.there)) (by simp)) (fun _ _ => ?_)
   rintro rfl
   refine g_nil <| g_qt <| g_seq <| g_region ?_
   refine g_mv ?_
   first | refine g_pure (p_loadO (by rfl) rfl (by first | (apply Has.own; (repeat' (first | exact Take.here | apply Take.there)); done) | exact Has.ro (by assumption)) (by rfl)) rfl ?_ | refine g_pure (p_loadN (by rfl) rfl (by first | (apply Has.own; (repeat' (first | exact Take.here | apply Take.there)); done) | exact Has.ro (by assumption)) (by first | rfl | assumption)) rfl ?_
   first | refine g_pure (p_loadO (by rfl) rfl (by first | (apply Has.own; (repeat' (first | exact Take.here | apply Take.there)); done) | exact Has.ro (by assumption)) (by rfl)) rfl ?_ | refine g_pure (p_loadN (by rfl) rfl (by first | (apply Has.own; (repeat' (first | exact Take.here | apply Take.there)); done) | exact Has.ro (by assumption)) (by first | rfl | assumption)) rfl ?_
   refine g_call (Hin := []) (Hr := ?hr5) (R := ?rr5) rfl rfl rfl ?hin5 ?hc5 ?hk5
   case hin5 => repeat' (first | exact Cover.nil | exact Take.here | apply Cover.cons | apply Take.there)
   case hc5 => intro ρ' hρ hR; exact sameRt_ok (hrx.mono hρ) (hry.mono hρ) hok
   rintro _ _ ⟨rfl, rfl⟩
   refine g_pure (p_not rfl) rfl ?_
   refine g_nil <| g_qt ?_
   refine g_if rfl (fun h2 => ?_) (fun h2 => ?_)
   ·refine g_seq <| g_region ?_
    refine g_as ?_
    refine g_nil <| g_qt <| g_ret <| g_qb_ret <| g_qt_ret <| g_qn_ret <| g_qb_ret <| g_qt_ret ?_
    exact g_postA (rs := [.tmp 6]) rfl (.tmp rfl .nil) ⟨by rw [decide_eq_false (p := la = lb) (getElem_ne hka hkb (by simpa using h2))]; rfl, rfl⟩
   ·have h2' : la[k] = lb[k] := by simpa using h2
    refine g_skip <| g_qb <| g_qt <| g_region ?_
    first | refine g_pure (p_addi rfl rfl (by omega)) rfl ?_ | refine g_pure (p_add rfl rfl) rfl ?_
    refine g_mv ?_
    refine g_nil <| g_qn ?_
    exact g_next (k + 1) (by (repeat (first | exact trivial | refine ⟨by rfl, ?_⟩)); done) .nil ⟨hka, take_eq_step hka hkb hk2 h2'⟩ (by omega)
  ·rw [List.take_of_length_le (by omega), List.take_of_length_le (by omega)] at hk2
   refine g_exit <| g_qt_exit <| g_qn_exit <| g_qb_exit <| g_qt <| g_seq <| g_region ?_
   refine g_as ?_
   refine g_nil <| g_qt <| g_ret ?_
   exact g_post (rs := [.tmp 6]) rfl (.tmp rfl .nil) ⟨by rw [decide_eq_true hk2]; rfl, rfl⟩ .nil

theorem sameA_ok {ρ : Nat → Obj → Prop} {ea ra eb rb : Option Addr} {ec rc ed rd : Nat} {x y : Im} (hx : ImI ρ ea ra x) (hy : ImI ρ eb rb y) :
  Con Tryz.prog ρ 12 #[.agg #[.slice ea x.1.length ec, .slice ra x.2.length rc], .agg #[.slice eb y.1.length ed, .slice rb y.2.length rd]] [] (fun v H => v = .bool (decide (x = y)) ∧ H = []) := by
 have k1 := hx.el
 have k2 := hx.rl
 have hiff : x = y ↔ x.1 = y.1 ∧ x.2 = y.2 := Prod.ext_iff
 refine con_intro Tryz.func12 Tryz.call12 rfl Tryz.ntmps12 rfl (L := [(0, _), (1, _)]) rfl fun w hh => ?_
 refine g_seq <| g_region ?_
 refine g_eff (e_box rfl (by rfl)) rfl (fun _ _ => ?_)
 rintro ⟨b2, rfl, rfl⟩
 refine g_eff (e_box rfl (by rfl)) rfl (fun _ _ => ?_)
 rintro ⟨b3, rfl, rfl⟩
 refine g_as ?_
 refine g_nil <| g_qt <| g_seq <| g_region ?_
 refine g_fa ?_
 refine g_ld ?_
 refine g_fa ?_
 refine g_ld ?_
 refine g_call (Hin := []) (Hr := ?hr6) (R := ?rr6) rfl rfl rfl ?hin6 ?hc6 ?hk6
 case hin6 => repeat' (first | exact Cover.nil | exact Take.here | apply Cover.cons | apply Take.there)
 case hc6 => intro ρ' hρ hR; exact intsEq_ok ea eb ec ed x.1 y.1 (hx.es.mono hρ) (hy.es.mono hρ) (by omega)
 rintro _ _ ⟨rfl, rfl⟩
 refine g_mv ?_
 refine g_splitd rfl rfl (fun h1 => ?_) (fun h1 => ?_)
 ·refine g_yesA ?_
  refine g_fa ?_
  refine g_yesA ?_
  refine g_ld ?_
  refine g_yesA ?_
  refine g_fa ?_
  refine g_yesA ?_
  refine g_ld ?_
  refine g_yesA ?_
  refine g_call (Hin := []) (Hr := ?hr7) (R := ?rr7) rfl rfl rfl ?hin7 ?hc7 ?hk7
  case hin7 => repeat' (first | exact Cover.nil | exact Take.here | apply Cover.cons | apply Take.there)
  case hc7 => intro ρ' hρ hR; exact eqF_ok ra rb rc rd x.2 y.2 (hx.rs.mono hρ) (hy.rs.mono hρ) k2 hx.ok
  rintro _ _ ⟨rfl, rfl⟩
  first | refine g_pkt ?_ | refine g_pkf ?_
  refine g_as ?_
  refine g_nil <| g_qt <| g_ret ?_
  first | exact g_postA (rs := [.tmp 4]) rfl (.tmp rfl .nil) ⟨show Value.bool false = _ by (rw [decide_eq_false (p := x = y) (fun h => by obtain ⟨z1, z2⟩ := hiff.1 h; contradiction)]), rfl⟩ | exact g_postA (rs := [.tmp 4]) rfl (.tmp rfl .nil) ⟨show Value.bool (decide (x.2 = y.2)) = _ by (congr 1; rw [decide_eq_decide, hiff]; exact ⟨fun h => ⟨by assumption, h⟩, fun h => h.2⟩), rfl⟩
 ·refine g_noA ?_
  refine g_noA ?_
  refine g_noA ?_
  refine g_noA ?_
  refine g_noA ?_
  first | refine g_pkt ?_ | refine g_pkf ?_
  refine g_as ?_
  refine g_nil <| g_qt <| g_ret ?_
  first | exact g_postA (rs := [.tmp 4]) rfl (.tmp rfl .nil) ⟨show Value.bool false = _ by (rw [decide_eq_false (p := x = y) (fun h => by obtain ⟨z1, z2⟩ := hiff.1 h; contradiction)]), rfl⟩ | exact g_postA (rs := [.tmp 4]) rfl (.tmp rfl .nil) ⟨show Value.bool (decide (x.2 = y.2)) = _ by (congr 1; rw [decide_eq_decide, hiff]; exact ⟨fun h => ⟨by assumption, h⟩, fun h => h.2⟩), rfl⟩
end Go.Proofs.YtcnfcoojmbjdlaaGreatDoor
/- Chapter 26: the document's equality; weights. Conditions: none. -/
namespace Go.Proofs.YtcnfcoojmbjdlaaGreatDoor
set_option maxRecDepth 8000
set_option linter.unusedVariables false
set_option linter.unusedSimpArgs false
set_option linter.unusedSectionVars false
open Go Go.Z Go.Z.Asm

theorem weigh_ok {ρ : Nat → Obj → Prop} {ea ra : Option Addr} {ec rc : Nat} {im : Im} (h : ImI ρ ea ra im) :
  Con Tryz.prog ρ 27 #[.agg #[.slice ea im.1.length ec, .slice ra im.2.length rc], .int .i64 2000] [] (fun v H => ∃ n, v = .int .i64 n ∧ H = []) := by
 have hrl := h.rl
 have hel := h.el
 obtain ⟨b1, o1, c1, T1, f1, hr1⟩ := rts_at h.rs
 refine con_intro Tryz.func27 Tryz.call27 rfl Tryz.ntmps27 rfl (L := [(0, _), (1, _)]) rfl fun w hh => ?_
 refine g_seq <| g_region ?_
 refine g_eff (e_box rfl (by rfl)) rfl (fun _ _ => ?_)
 rintro ⟨b2, rfl, rfl⟩
 refine g_as ?_
 refine g_nil <| g_qt <| g_seq <| g_region ?_
 refine g_fa ?_
 refine g_ld ?_
 refine g_pure (p_len (by rfl) rfl) rfl ?_
 refine g_fa ?_
 refine g_ld ?_
 refine g_pure (p_len (by rfl) rfl) rfl ?_
 first | refine g_pure (p_addi rfl rfl (by omega)) rfl ?_ | refine g_pure (p_add rfl rfl) rfl ?_
 refine g_as ?_
 refine g_nil <| g_qt <| g_seq <| g_seq <| g_region ?_
 refine g_as ?_
 refine g_nil <| g_qt <| g_block ?_
 refine g_loop (fun q : Nat × Int => [(1, .int .i64 2000), (2, .pointer (some ⟨b2, 0, none⟩)), (5, .int .i64 q.2), (6, .int .i64 q.1)])
  (fun _ => [Blk b2 (.cells [.slice ea im.1.length ec, .slice ra im.2.length rc].toArray 25 (0, 0))]) (fun q => q.1 ≤ im.2.length ∧ 0 ≤ q.2 ∧ q.2 ≤ 100000000000000000) (fun q => im.2.length - q.1) (0, (im.1.length : Int) + im.2.length) ⟨Nat.zero_le _, by dsimp only; omega, by dsimp only; omega⟩ (by (repeat (first | exact trivial | refine ⟨by rfl, ?_⟩)); done) (by repeat' (first | exact Cover.nil | exact Take.here | apply Cover.cons | apply Take.there)) ?_
 rintro ⟨k, z⟩ ⟨hk, hz1, hz2⟩
 dsimp only at hk hz1 hz2 ⊢
 refine g_seq <| g_seq <| g_region ?_
 refine g_mv ?_
 refine g_fa ?_
 refine g_ld ?_
 refine g_pure (p_len (by rfl) rfl) rfl ?_
 refine g_pure (p_lss rfl rfl) rfl ?_
 refine g_mv ?_
 refine g_splitd rfl rfl (fun q1 => ?_) (fun q1 => ?_)
 ·refine g_yesA ?_
  refine g_mv ?_
  refine g_yesA ?_
  refine g_mv ?_
  refine g_yesA ?_
  refine g_pure (p_lss rfl rfl) rfl ?_
  first | refine g_pkt ?_ | refine g_pkf ?_
  refine g_nil <| g_qt ?_
  refine g_ifd rfl (fun q2 => ?_) (fun q2 => ?_)
  ·have hkl : k < im.2.length := by omega
   obtain ⟨p1, p2, p3⟩ := hr1 (by omega)
   obtain ⟨rx, x1, x2⟩ := p3 k hkl
   have hok := h.ok im.2[k] (List.getElem_mem hkl)
   generalize im.2[k] = x0 at x1 hok
   obtain ⟨ia, ic, oa, oc, na, nc, ca, cc, rfl, _⟩ := x1
   have l1 := hok.nl
   have l2 := hok.il
   have l3 := hok.ol
   have l4 := hok.zl
   have l5 := hok.cl
   have hs : (strB x0.1).size = x0.1.length := rfl
   have hd : ((strB x0.1).size : Int).tdiv 100 = (x0.1.length : Int) / 100 := by rw [hs]; exact Int.tdiv_eq_ediv_of_nonneg (by omega)
   refine g_skip <| g_qt <| g_seq <| g_block <| g_seq <| g_region ?_
   refine g_fa ?_
   refine g_ld ?_
   refine g_mv ?_
   refine g_pure (p_indexAddr rfl rfl (by omega) (fun _ => p1)) rfl ?_
   refine g_pure (p_loadN (by rfl) rfl (Has.ro p2) x2) rfl ?_
   refine g_eff (e_alloc (by rfl)) rfl (fun _ _ => ?_)
   rintro ⟨b7, rfl, rfl⟩
   first | refine g_eff0 (e_storeO rfl rfl (by rfl) (by rfl) (by rfl) (by repeat' (first | exact Take.here | apply Take.there)) (by rfl)) (fun _ _ => ?_) | refine g_eff0 (e_storeN rfl rfl (by rfl) (by rfl) (by rfl) (by repeat' (first | exact Take.here | apply Take.there)) (by simp)) (fun _ _ => ?_)
   rintro rfl
   refine g_nil <| g_qt <| g_region ?_
   refine g_mv ?_
   refine g_fa ?_
   refine g_ld ?_
   refine g_pure (p_lens (by rfl) rfl) rfl ?_
   first | refine g_pure (p_quon rfl rfl (by omega) (by omega)) rfl ?_ | refine g_pure (p_quoi rfl rfl (by omega) (by omega)) rfl ?_ | refine g_pure (p_quo rfl rfl (by omega)) rfl ?_
   first | refine g_pure (p_addi rfl rfl (by omega)) rfl ?_ | refine g_pure (p_add rfl rfl) rfl ?_
   refine g_fa ?_
   refine g_ld ?_
   refine g_pure (p_len (by rfl) rfl) rfl ?_
   first | refine g_pure (p_addi rfl rfl (by omega)) rfl ?_ | refine g_pure (p_add rfl rfl) rfl ?_
   refine g_fa ?_
   refine g_ld ?_
   refine g_pure (p_len (by rfl) rfl) rfl ?_
   first | refine g_pure (p_addi rfl rfl (by omega)) rfl ?_ | refine g_pure (p_add rfl rfl) rfl ?_
   refine g_fa ?_
   refine g_ld ?_
   refine g_pure (p_len (by rfl) rfl) rfl ?_
   first | refine g_pure (p_addi rfl rfl (by omega)) rfl ?_ | refine g_pure (p_add rfl rfl) rfl ?_
   refine g_fa ?_
   refine g_ld ?_
   refine g_pure (p_len (by rfl) rfl) rfl ?_
   first | refine g_pure (p_addi rfl rfl (by omega)) rfl ?_ | refine g_pure (p_add rfl rfl) rfl ?_
   refine g_as ?_
   refine g_nil <| g_qb <| g_qt <| g_region ?_
   refine g_mv ?_
   first | refine g_pure (p_addi rfl rfl (by omega)) rfl ?_ | refine g_pure (p_add rfl rfl) rfl ?_
   refine g_as ?_
   refine g_nil <| g_qn ?_
   exact g_next (k + 1, _) (by (repeat (first | exact trivial | refine ⟨by rfl, ?_⟩)); done) (by repeat' (first | exact Cover.nil | exact Take.here | apply Cover.cons | apply Take.there)) ⟨hkl, by dsimp only; omega, by dsimp only; omega⟩ (by dsimp only; omega)
  ·refine g_exit <| g_qt_exit <| g_qn_exit <| g_qb_exit <| g_qt <| g_seq <| g_region ?_
   refine g_mv ?_
   refine g_as ?_
   refine g_nil <| g_qt <| g_ret ?_
   exact g_postA (rs := [.tmp 4]) rfl (.tmp rfl .nil) ⟨_, rfl, rfl⟩
 ·refine g_noA ?_
  refine g_noA ?_
  refine g_noA ?_
  first | refine g_pkt ?_ | refine g_pkf ?_
  refine g_nil <| g_qt ?_
  refine g_iff rfl ?_
  refine g_exit <| g_qt_exit <| g_qn_exit <| g_qb_exit <| g_qt <| g_seq <| g_region ?_
  refine g_mv ?_
  refine g_as ?_
  refine g_nil <| g_qt <| g_ret ?_
  exact g_postA (rs := [.tmp 4]) rfl (.tmp rfl .nil) ⟨_, rfl, rfl⟩
theorem heavy_ok {ρ : Nat → Obj → Prop} {ea ra : Option Addr} {ec rc : Nat} {im : Im} (h : ImI ρ ea ra im) :
  Con Tryz.prog ρ 10 #[.agg #[.slice ea im.1.length ec, .slice ra im.2.length rc]] [] (fun v H => ∃ b, v = .bool b ∧ H = []) := by
 refine con_intro Tryz.func10 Tryz.call10 rfl Tryz.ntmps10 rfl (L := [(0, _)]) rfl fun w hh => ?_
 refine g_seq <| g_region ?_
 refine g_eff (e_box rfl (by rfl)) rfl (fun _ _ => ?_)
 rintro ⟨b1, rfl, rfl⟩
 refine g_as ?_
 refine g_nil <| g_qt <| g_seq <| g_region ?_
 first | refine g_pure (p_loadO (by rfl) rfl (by first | (apply Has.own; (repeat' (first | exact Take.here | apply Take.there)); done) | exact Has.ro (by assumption)) (by rfl)) rfl ?_ | refine g_pure (p_loadN (by rfl) rfl (by first | (apply Has.own; (repeat' (first | exact Take.here | apply Take.there)); done) | exact Has.ro (by assumption)) (by first | rfl | assumption)) rfl ?_
 refine g_call (Hin := []) (Hr := ?hr1) (R := ?rr1) rfl rfl rfl ?hin1 ?hc1 ?hk1
 case hin1 => repeat' (first | exact Cover.nil | exact Take.here | apply Cover.cons | apply Take.there)
 case hc1 => intro ρ' hρ hR; exact weigh_ok (ec := ec) (rc := rc) (h.mono hρ)
 rintro _ _ ⟨n, rfl, rfl⟩
 refine g_pure (p_geq rfl rfl) rfl ?_
 refine g_as ?_
 refine g_nil <| g_qt <| g_ret ?_
 exact g_postA (rs := [.tmp 2]) rfl (.tmp rfl .nil) ⟨_, rfl, rfl⟩
end Go.Proofs.YtcnfcoojmbjdlaaGreatDoor
/- Chapter 26: the document's equality. Conditions: none. -/
namespace Go.Proofs.YtcnfcoojmbjdlaaGreatDoor
set_option maxRecDepth 8000
set_option linter.unusedVariables false
set_option linter.unusedSimpArgs false
set_option linter.unusedSectionVars false
open Go Go.Z Go.Z.Asm

theorem rsame_ok {ρ : Nat → Obj → Prop} {ea ra eb rb : Option Addr} {ec rc ed rd : Nat} {x y : Im} (hx : ImI ρ ea ra x) (hy : ImI ρ eb rb y) :
  Con Tryz.prog ρ 13 #[.agg #[.slice ea x.1.length ec, .slice ra x.2.length rc], .agg #[.slice eb y.1.length ed, .slice rb y.2.length rd]] [] (fun v H => v = .bool (decide (x = y)) ∧ H = []) := by
 have hel := hx.el
 have hrl := hx.rl
 have hyl := hy.rl
 have hiff : x = y ↔ x.1 = y.1 ∧ x.2 = y.2 := Prod.ext_iff
 obtain ⟨bx1, o1, c1, T1, f1, hr1⟩ := rts_at hx.rs
 obtain ⟨by1, o2, c2, T2, f2, hr2⟩ := rts_at hy.rs
 refine con_intro Tryz.func13 Tryz.call13 rfl Tryz.ntmps13 rfl (L := [(0, _), (1, _)]) rfl fun w hh => ?_
 refine g_seq <| g_region ?_
 refine g_eff (e_box rfl (by rfl)) rfl (fun _ _ => ?_)
 rintro ⟨b2, rfl, rfl⟩
 refine g_eff (e_box rfl (by rfl)) rfl (fun _ _ => ?_)
 rintro ⟨b3, rfl, rfl⟩
 refine g_as ?_
 refine g_nil <| g_qt <| g_seq ?_
 refine g_join (fun _ : Unit => [(2, .pointer (some ⟨b2, 0, none⟩)), (3, .pointer (some ⟨b3, 0, none⟩))]) (fun _ => [Blk b2 (.cells [.slice ea x.1.length ec, .slice ra x.2.length rc].toArray 25 (0, 0)), Blk b3 (.cells [.slice eb y.1.length ed, .slice rb y.2.length rd].toArray 25 (0, 0))]) (fun _ => x.1 = y.1 ∧ x.2.length = y.2.length) ?_ ?_
 ·refine g_seq <| g_region ?_
  refine g_fa ?_
  refine g_ld ?_
  refine g_fa ?_
  refine g_ld ?_
  refine g_call (Hin := []) (Hr := ?hr1) (R := ?rr1) rfl rfl rfl ?hin1 ?hc1 ?hk1
  case hin1 => repeat' (first | exact Cover.nil | exact Take.here | apply Cover.cons | apply Take.there)
  case hc1 => intro ρ' hρ hR; exact Ints_ok ea eb ec ed x.1 y.1 (hx.es.mono hρ) (hy.es.mono hρ) (by omega)
  rintro _ _ ⟨rfl, rfl⟩
  refine g_pure (p_not rfl) rfl ?_
  refine g_mv ?_
  refine g_splitnd rfl rfl (fun h1 => ?_) (fun h1 => ?_)
  ·refine g_noA ?_
   refine g_noA ?_
   refine g_noA ?_
   refine g_noA ?_
   refine g_noA ?_
   refine g_noA ?_
   refine g_noA ?_
   first | refine g_pkt ?_ | refine g_pkf ?_
   refine g_nil <| g_qt ?_
   refine g_ift rfl ?_
   refine g_seq <| g_region ?_
   refine g_as ?_
   refine g_nil <| g_qt <| g_ret <| g_qn_ret <| g_qt_ret ?_
   first | exact g_postA (rs := [.tmp 4]) rfl (.tmp rfl .nil) ⟨show Value.bool false = _ by (rw [decide_eq_false (p := x = y) (fun h => by obtain ⟨z1, z2⟩ := hiff.1 h; contradiction)]), rfl⟩ | exact g_postA (rs := [.tmp 4]) rfl (.tmp rfl .nil) ⟨show Value.bool false = _ by (rw [decide_eq_false (p := x = y) (fun h => by obtain ⟨z1, z2⟩ := hiff.1 h; have z3 := congrArg List.length z2; omega)]), rfl⟩
  ·refine g_yesA ?_
   refine g_fa ?_
   refine g_yesA ?_
   refine g_ld ?_
   refine g_yesA ?_
   refine g_pure (p_len (by rfl) rfl) rfl ?_
   refine g_yesA ?_
   refine g_fa ?_
   refine g_yesA ?_
   refine g_ld ?_
   refine g_yesA ?_
   refine g_pure (p_len (by rfl) rfl) rfl ?_
   refine g_yesA ?_
   refine g_pure (p_neq rfl rfl) rfl ?_
   first | refine g_pkt ?_ | refine g_pkf ?_
   refine g_nil <| g_qt ?_
   refine g_ifndL rfl (fun h3 => ?_) (fun h3 => ?_)
   ·refine g_seq <| g_region ?_
    refine g_as ?_
    refine g_nil <| g_qt <| g_ret <| g_qn_ret <| g_qt_ret ?_
    first | exact g_postA (rs := [.tmp 4]) rfl (.tmp rfl .nil) ⟨show Value.bool false = _ by (rw [decide_eq_false (p := x = y) (fun h => by obtain ⟨z1, z2⟩ := hiff.1 h; contradiction)]), rfl⟩ | exact g_postA (rs := [.tmp 4]) rfl (.tmp rfl .nil) ⟨show Value.bool false = _ by (rw [decide_eq_false (p := x = y) (fun h => by obtain ⟨z1, z2⟩ := hiff.1 h; have z3 := congrArg List.length z2; omega)]), rfl⟩
   ·refine g_skip <| g_qn ?_
    exact g_joinedA () ⟨by assumption, by omega⟩
 rintro _ ⟨he1, he2⟩
 refine g_qt <| g_seq <| g_seq <| g_region ?_
 refine g_as ?_
 refine g_nil <| g_qt <| g_block ?_
 refine g_loop (fun k : Nat => [(2, .pointer (some ⟨b2, 0, none⟩)), (3, .pointer (some ⟨b3, 0, none⟩)), (5, .int .i64 k)])
  (fun _ => [Blk b2 (.cells [.slice ea x.1.length ec, .slice ra x.2.length rc].toArray 25 (0, 0)), Blk b3 (.cells [.slice eb y.1.length ed, .slice rb y.2.length rd].toArray 25 (0, 0))])
  (fun k => k ≤ x.2.length ∧ x.2.take k = y.2.take k) (fun k => x.2.length - k) 0 ⟨Nat.zero_le _, rfl⟩ (by (repeat (first | exact trivial | refine ⟨by rfl, ?_⟩)); done) (by repeat' (first | exact Cover.nil | exact Take.here | apply Cover.cons | apply Take.there)) ?_
 rintro k ⟨hk1, hk2⟩
 refine g_seq <| g_seq <| g_region ?_
 refine g_mv ?_
 refine g_fa ?_
 refine g_ld ?_
 refine g_pure (p_len (by rfl) rfl) rfl ?_
 refine g_pure (p_lss rfl rfl) rfl ?_
 refine g_nil <| g_qt ?_
 refine g_ifd rfl (fun q => ?_) (fun q => ?_)
 ·have hka : k < x.2.length := by omega
  have hkb : k < y.2.length := by omega
  obtain ⟨p1, p2, p3⟩ := hr1 (by omega)
  obtain ⟨q1, q2, q3⟩ := hr2 (by omega)
  obtain ⟨rx, x1, x2⟩ := p3 k hka
  obtain ⟨ry, y1, y2⟩ := q3 k hkb
  have hok := hx.ok x.2[k] (List.getElem_mem hka)
  have hoy := hy.ok y.2[k] (List.getElem_mem hkb)
  have hstep : x.2[k] = y.2[k] → x.2.take (k + 1) = y.2.take (k + 1) := take_eq_step hka hkb hk2
  have hne : x.2[k] ≠ y.2[k] → x ≠ y := fun e h => getElem_ne hka hkb e (hiff.1 h).2
  generalize x.2[k] = u at x1 hok hstep hne
  generalize y.2[k] = v at y1 hoy hstep hne
  have hrt := rt_iff u v
  obtain ⟨ia, ic, oa, oc, na, nc, ca, cc, rfl, g1, g2, g3, g4⟩ := x1
  obtain ⟨ia', ic', oa', oc', na', nc', ca', cc', rfl, k1, k2, k3, k4⟩ := y1
  have l2 := hok.il
  have l3 := hok.ol
  have l4 := hok.zl
  have l5 := hok.cl
  have l6 := hoy.cl
  have hfalse : ¬ (strB u.1 = strB v.1 ∧ u.2.2.2.1 = v.2.2.2.1 ∧ u.2.1 = v.2.1 ∧ u.2.2.1 = v.2.2.1 ∧ u.2.2.2.2.1 = v.2.2.2.2.1 ∧ u.2.2.2.2.2 = v.2.2.2.2.2) → decide (x = y) = false := fun h => decide_eq_false (hne fun e => h (hrt.1 e))
  obtain ⟨pc, poc, pcs, PT, pf, hpc⟩ := RSl.row encIns_len g4
  obtain ⟨qc, qoc, qcs, QT, qf, hqc⟩ := RSl.row encIns_len k4
  refine g_skip <| g_qt <| g_seq <| g_block <| g_seq ?_
  refine g_join (fun z : Nat × Nat => [(2, .pointer (some ⟨b2, 0, none⟩)), (3, .pointer (some ⟨b3, 0, none⟩)), (5, .int .i64 k), (6, .pointer (some ⟨z.1, 0, none⟩)), (7, .pointer (some ⟨z.2, 0, none⟩))])
   (fun z => [Blk z.1 (.cells [.string (strB u.1), .slice ia u.2.1.length ic, .slice oa u.2.2.1.length oc, .int .i64 u.2.2.2.1, .slice na u.2.2.2.2.1.length nc, .slice ca u.2.2.2.2.2.length cc].toArray 45 (0, 0)), Blk z.2 (.cells [.string (strB v.1), .slice ia' v.2.1.length ic', .slice oa' v.2.2.1.length oc', .int .i64 v.2.2.2.1, .slice na' v.2.2.2.2.1.length nc', .slice ca' v.2.2.2.2.2.length cc'].toArray 45 (0, 0)), Blk b2 (.cells [.slice ea x.1.length ec, .slice ra x.2.length rc].toArray 25 (0, 0)), Blk b3 (.cells [.slice eb y.1.length ed, .slice rb y.2.length rd].toArray 25 (0, 0))]) (fun _ => True) ?_ ?_
  ·refine m_begin0 (.fl 0 0 (.fl 1 1 (.fl 2 0 (.fl 3 0 (.fl 4 1 (.fl 5 0 (.fl 6 1 (.fl 7 0 (.fl 8 0 (.fl 9 1 (.or (.ef 10 (.ef 11 (.ef 12 (.ef 13 .done)))) (.ef 11 (.ef 10 (.ef 12 (.ef 13 .done))))))))))))))) (by kernel_rfl) (by kernel_rfl) ?_
   refine m_float0 rfl (fun _ _ => p_fieldAddr rfl) rfl ?_
   refine m_float rfl (p_loadA) rfl ?_
   refine m_float0 rfl (fun _ _ => p_move rfl) rfl ?_
   refine m_float0 rfl (fun _ _ => p_indexAddr rfl rfl (by omega) (fun _ => p1)) rfl ?_
   refine m_float rfl (p_loadN (by rfl) rfl (Has.ro p2) x2) rfl ?_
   refine m_float0 rfl (fun _ _ => p_fieldAddr rfl) rfl ?_
   refine m_float rfl (p_loadA) rfl ?_
   refine m_float0 rfl (fun _ _ => p_move rfl) rfl ?_
   refine m_float0 rfl (fun _ _ => p_indexAddr rfl rfl (by omega) (fun _ => q1)) rfl ?_
   refine m_float rfl (p_loadN (by rfl) rfl (Has.ro q2) y2) rfl ?_
   refine m_or ?_ ?_
   ·refine m_eff rfl (e_alloc (by rfl)) rfl (fun _ _ => ?_)
    rintro ⟨b6, rfl, rfl⟩
    refine ⟨.some (by repeat' (first | exact Cover.nil | exact Take.here | apply Cover.cons | apply Take.there)), ?_⟩
    refine m_eff rfl (e_alloc (by rfl)) rfl (fun _ _ => ?_)
    rintro ⟨b7, rfl, rfl⟩
    refine ⟨.some (by repeat' (first | exact Cover.nil | exact Take.here | apply Cover.cons | apply Take.there)), ?_⟩
    first | refine m_eff0 rfl (e_storeO rfl rfl (by rfl) (by rfl) (by rfl) (by repeat' (first | exact Take.here | apply Take.there)) (by rfl)) (fun _ _ => ?_) | refine m_eff0 rfl (e_storeN rfl rfl (by rfl) (by rfl) (by rfl) (by repeat' (first | exact Take.here | apply Take.there)) (by simp)) (fun _ _ => ?_)
    rintro rfl
    refine ⟨.some (by repeat' (first | exact Cover.nil | exact Take.here | apply Cover.cons | apply Take.there)), ?_⟩
    first | refine m_eff0 rfl (e_storeO rfl rfl (by rfl) (by rfl) (by rfl) (by repeat' (first | exact Take.here | apply Take.there)) (by rfl)) (fun _ _ => ?_) | refine m_eff0 rfl (e_storeN rfl rfl (by rfl) (by rfl) (by rfl) (by repeat' (first | exact Take.here | apply Take.there)) (by simp)) (fun _ _ => ?_)
    rintro rfl
    refine ⟨.none (by kernel_rfl), ?_⟩
    refine m_nil ?_
    refine g_qn ?_
    exact g_joinedA (b6, b7) trivial
   refine m_eff rfl (e_alloc (by rfl)) rfl (fun _ _ => ?_)
   rintro ⟨b7, rfl, rfl⟩
   refine ⟨.some (by repeat' (first | exact Cover.nil | exact Take.here | apply Cover.cons | apply Take.there)), ?_⟩
   refine m_eff rfl (e_alloc (by rfl)) rfl (fun _ _ => ?_)
   rintro ⟨b6, rfl, rfl⟩
   refine ⟨.some (by repeat' (first | exact Cover.nil | exact Take.here | apply Cover.cons | apply Take.there)), ?_⟩
   first | refine m_eff0 rfl (e_storeO rfl rfl (by rfl) (by rfl) (by rfl) (by repeat' (first | exact Take.here | apply Take.there)) (by rfl)) (fun _ _ => ?_) | refine m_eff0 rfl (e_storeN rfl rfl (by rfl) (by rfl) (by rfl) (by repeat' (first | exact Take.here | apply Take.there)) (by simp)) (fun _ _ => ?_)
   rintro rfl
   refine ⟨.some (by repeat' (first | exact Cover.nil | exact Take.here | apply Cover.cons | apply Take.there)), ?_⟩
   first | refine m_eff0 rfl (e_storeO rfl rfl (by rfl) (by rfl) (by rfl) (by repeat' (first | exact Take.here | apply Take.there)) (by rfl)) (fun _ _ => ?_) | refine m_eff0 rfl (e_storeN rfl rfl (by rfl) (by rfl) (by rfl) (by repeat' (first | exact Take.here | apply Take.there)) (by simp)) (fun _ _ => ?_)
   rintro rfl
   refine ⟨.none (by kernel_rfl), ?_⟩
   refine m_nil ?_
   refine g_qn ?_
   exact g_joinedA (b6, b7) trivial
  rintro ⟨b6, b7⟩ -
  dsimp only
  refine g_qt <| g_seq ?_
  refine g_join (fun _ : Unit => [(2, .pointer (some ⟨b2, 0, none⟩)), (3, .pointer (some ⟨b3, 0, none⟩)), (5, .int .i64 k), (6, .pointer (some ⟨b6, 0, none⟩)), (7, .pointer (some ⟨b7, 0, none⟩))])
   (fun _ => [Blk b6 (.cells [.string (strB u.1), .slice ia u.2.1.length ic, .slice oa u.2.2.1.length oc, .int .i64 u.2.2.2.1, .slice na u.2.2.2.2.1.length nc, .slice ca u.2.2.2.2.2.length cc].toArray 45 (0, 0)), Blk b7 (.cells [.string (strB v.1), .slice ia' v.2.1.length ic', .slice oa' v.2.2.1.length oc', .int .i64 v.2.2.2.1, .slice na' v.2.2.2.2.1.length nc', .slice ca' v.2.2.2.2.2.length cc'].toArray 45 (0, 0)), Blk b2 (.cells [.slice ea x.1.length ec, .slice ra x.2.length rc].toArray 25 (0, 0)), Blk b3 (.cells [.slice eb y.1.length ed, .slice rb y.2.length rd].toArray 25 (0, 0))])
   (fun _ => (strB u.1 = strB v.1 ∧ u.2.2.2.1 = v.2.2.2.1 ∧ u.2.1 = v.2.1 ∧ u.2.2.1 = v.2.2.1 ∧ u.2.2.2.2.1 = v.2.2.2.2.1) ∧ u.2.2.2.2.2.length = v.2.2.2.2.2.length) ?_ ?_
  ·refine g_seq <| g_region ?_
   refine g_fa ?_
   refine g_ld ?_
   refine g_fa ?_
   refine g_ld ?_
   refine g_pure (p_neqs (i := strB u.1) (j := strB v.1) (by rfl) rfl rfl) rfl ?_
   refine g_mv ?_
   refine g_splitnd rfl rfl (fun h1 => ?_) (fun h1 => ?_)
   ·refine g_noA ?_
    refine g_noA ?_
    refine g_noA ?_
    refine g_noA ?_
    refine g_noA ?_
    refine g_noA ?_
    first | refine g_pkt ?_ | refine g_pkf ?_
    refine g_mv ?_
    refine g_noA ?_
    refine g_noA ?_
    refine g_noA ?_
    refine g_noA ?_
    refine g_noA ?_
    refine g_noA ?_
    first | refine g_pkt ?_ | refine g_pkf ?_
    refine g_mv ?_
    refine g_noA ?_
    refine g_noA ?_
    refine g_noA ?_
    refine g_noA ?_
    refine g_noA ?_
    first | refine g_pkt ?_ | refine g_pkf ?_
    refine g_mv ?_
    refine g_noA ?_
    refine g_noA ?_
    refine g_noA ?_
    refine g_noA ?_
    refine g_noA ?_
    refine g_noA ?_
    first | refine g_pkt ?_ | refine g_pkf ?_
    refine g_mv ?_
    refine g_noA ?_
    refine g_noA ?_
    refine g_noA ?_
    refine g_noA ?_
    refine g_noA ?_
    refine g_noA ?_
    refine g_noA ?_
    first | refine g_pkt ?_ | refine g_pkf ?_
    refine g_nil <| g_qt ?_
    refine g_ift rfl ?_
    refine g_seq <| g_region ?_
    refine g_as ?_
    refine g_nil <| g_qt <| g_ret <| g_qn_ret <| g_qt_ret <| g_qb_ret <| g_qt_ret <| g_qn_ret ?_
    refine g_qb_ret <| g_qt_ret ?_
    exact g_postA (rs := [.tmp 4]) rfl (.tmp rfl .nil) ⟨show Value.bool false = _ by (rw [hfalse (fun ⟨z1, z2, z3, z4, z5, z6⟩ => by first | contradiction | (have z7 := congrArg List.length z6; omega))]), rfl⟩
   ·refine g_yesA ?_
    refine g_fa ?_
    refine g_yesA ?_
    refine g_ld ?_
    refine g_yesA ?_
    refine g_fa ?_
    refine g_yesA ?_
    refine g_ld ?_
    refine g_yesA ?_
    refine g_call (Hin := []) (Hr := ?hr2) (R := ?rr2) rfl rfl rfl ?hin2 ?hc2 ?hk2
    case hin2 => repeat' (first | exact Cover.nil | exact Take.here | apply Cover.cons | apply Take.there)
    case hc2 => intro ρ' hρ hR; exact Ints_ok ia ia' ic ic' u.2.1 v.2.1 (g1.mono hρ) (k1.mono hρ) (by omega)
    rintro _ _ ⟨rfl, rfl⟩
    refine g_yesA ?_
    refine g_pure (p_not rfl) rfl ?_
    first | refine g_pkt ?_ | refine g_pkf ?_
    refine g_mv ?_
    refine g_splitnd rfl rfl (fun h7 => ?_) (fun h7 => ?_)
    ·refine g_noA ?_
     refine g_noA ?_
     refine g_noA ?_
     refine g_noA ?_
     refine g_noA ?_
     refine g_noA ?_
     first | refine g_pkt ?_ | refine g_pkf ?_
     refine g_mv ?_
     refine g_noA ?_
     refine g_noA ?_
     refine g_noA ?_
     refine g_noA ?_
     refine g_noA ?_
     first | refine g_pkt ?_ | refine g_pkf ?_
     refine g_mv ?_
     refine g_noA ?_
     refine g_noA ?_
     refine g_noA ?_
     refine g_noA ?_
     refine g_noA ?_
     refine g_noA ?_
     first | refine g_pkt ?_ | refine g_pkf ?_
     refine g_mv ?_
     refine g_noA ?_
     refine g_noA ?_
     refine g_noA ?_
     refine g_noA ?_
     refine g_noA ?_
     refine g_noA ?_
     refine g_noA ?_
     first | refine g_pkt ?_ | refine g_pkf ?_
     refine g_nil <| g_qt ?_
     refine g_ift rfl ?_
     refine g_seq <| g_region ?_
     refine g_as ?_
     refine g_nil <| g_qt <| g_ret <| g_qn_ret <| g_qt_ret <| g_qb_ret <| g_qt_ret <| g_qn_ret ?_
     refine g_qb_ret <| g_qt_ret ?_
     exact g_postA (rs := [.tmp 4]) rfl (.tmp rfl .nil) ⟨show Value.bool false = _ by (rw [hfalse (fun ⟨z1, z2, z3, z4, z5, z6⟩ => by first | contradiction | (have z7 := congrArg List.length z6; omega))]), rfl⟩
    ·refine g_yesA ?_
     refine g_fa ?_
     refine g_yesA ?_
     refine g_ld ?_
     refine g_yesA ?_
     refine g_fa ?_
     refine g_yesA ?_
     refine g_ld ?_
     refine g_yesA ?_
     refine g_call (Hin := []) (Hr := ?hr3) (R := ?rr3) rfl rfl rfl ?hin3 ?hc3 ?hk3
     case hin3 => repeat' (first | exact Cover.nil | exact Take.here | apply Cover.cons | apply Take.there)
     case hc3 => intro ρ' hρ hR; exact Ints_ok oa oa' oc oc' u.2.2.1 v.2.2.1 (g2.mono hρ) (k2.mono hρ) (by omega)
     rintro _ _ ⟨rfl, rfl⟩
     refine g_yesA ?_
     refine g_pure (p_not rfl) rfl ?_
     first | refine g_pkt ?_ | refine g_pkf ?_
     refine g_mv ?_
     refine g_splitnd rfl rfl (fun h12 => ?_) (fun h12 => ?_)
     ·refine g_noA ?_
      refine g_noA ?_
      refine g_noA ?_
      refine g_noA ?_
      refine g_noA ?_
      first | refine g_pkt ?_ | refine g_pkf ?_
      refine g_mv ?_
      refine g_noA ?_
      refine g_noA ?_
      refine g_noA ?_
      refine g_noA ?_
      refine g_noA ?_
      refine g_noA ?_
      first | refine g_pkt ?_ | refine g_pkf ?_
      refine g_mv ?_
      refine g_noA ?_
      refine g_noA ?_
      refine g_noA ?_
      refine g_noA ?_
      refine g_noA ?_
      refine g_noA ?_
      refine g_noA ?_
      first | refine g_pkt ?_ | refine g_pkf ?_
      refine g_nil <| g_qt ?_
      refine g_ift rfl ?_
      refine g_seq <| g_region ?_
      refine g_as ?_
      refine g_nil <| g_qt <| g_ret <| g_qn_ret <| g_qt_ret <| g_qb_ret <| g_qt_ret <| g_qn_ret ?_
      refine g_qb_ret <| g_qt_ret ?_
      exact g_postA (rs := [.tmp 4]) rfl (.tmp rfl .nil) ⟨show Value.bool false = _ by (rw [hfalse (fun ⟨z1, z2, z3, z4, z5, z6⟩ => by first | contradiction | (have z7 := congrArg List.length z6; omega))]), rfl⟩
     ·refine g_yesA ?_
      refine g_fa ?_
      refine g_yesA ?_
      refine g_ld ?_
      refine g_yesA ?_
      refine g_fa ?_
      refine g_yesA ?_
      refine g_ld ?_
      refine g_yesA ?_
      refine g_pure (p_neq rfl rfl) rfl ?_
      first | refine g_pkt ?_ | refine g_pkf ?_
      refine g_mv ?_
      refine g_splitnd rfl rfl (fun h16 => ?_) (fun h16 => ?_)
      ·refine g_noA ?_
       refine g_noA ?_
       refine g_noA ?_
       refine g_noA ?_
       refine g_noA ?_
       refine g_noA ?_
       first | refine g_pkt ?_ | refine g_pkf ?_
       refine g_mv ?_
       refine g_noA ?_
       refine g_noA ?_
       refine g_noA ?_
       refine g_noA ?_
       refine g_noA ?_
       refine g_noA ?_
       refine g_noA ?_
       first | refine g_pkt ?_ | refine g_pkf ?_
       refine g_nil <| g_qt ?_
       refine g_ift rfl ?_
       refine g_seq <| g_region ?_
       refine g_as ?_
       refine g_nil <| g_qt <| g_ret <| g_qn_ret <| g_qt_ret <| g_qb_ret <| g_qt_ret <| g_qn_ret ?_
       refine g_qb_ret <| g_qt_ret ?_
       exact g_postA (rs := [.tmp 4]) rfl (.tmp rfl .nil) ⟨show Value.bool false = _ by (rw [hfalse (fun ⟨z1, z2, z3, z4, z5, z6⟩ => by first | contradiction | (have z7 := congrArg List.length z6; omega))]), rfl⟩
      ·refine g_yesA ?_
       refine g_fa ?_
       refine g_yesA ?_
       refine g_ld ?_
       refine g_yesA ?_
       refine g_fa ?_
       refine g_yesA ?_
       refine g_ld ?_
       refine g_yesA ?_
       refine g_call (Hin := []) (Hr := ?hr4) (R := ?rr4) rfl rfl rfl ?hin4 ?hc4 ?hk4
       case hin4 => repeat' (first | exact Cover.nil | exact Take.here | apply Cover.cons | apply Take.there)
       case hc4 => intro ρ' hρ hR; exact Ints_ok na na' nc nc' u.2.2.2.2.1 v.2.2.2.2.1 (g3.mono hρ) (k3.mono hρ) (by omega)
       rintro _ _ ⟨rfl, rfl⟩
       refine g_yesA ?_
       refine g_pure (p_not rfl) rfl ?_
       first | refine g_pkt ?_ | refine g_pkf ?_
       refine g_mv ?_
       refine g_splitnd rfl rfl (fun h19 => ?_) (fun h19 => ?_)
       ·refine g_noA ?_
        refine g_noA ?_
        refine g_noA ?_
        refine g_noA ?_
        refine g_noA ?_
        refine g_noA ?_
        refine g_noA ?_
        first | refine g_pkt ?_ | refine g_pkf ?_
        refine g_nil <| g_qt ?_
        refine g_ift rfl ?_
        refine g_seq <| g_region ?_
        refine g_as ?_
        refine g_nil <| g_qt <| g_ret <| g_qn_ret <| g_qt_ret <| g_qb_ret <| g_qt_ret <| g_qn_ret ?_
        refine g_qb_ret <| g_qt_ret ?_
        exact g_postA (rs := [.tmp 4]) rfl (.tmp rfl .nil) ⟨show Value.bool false = _ by (rw [hfalse (fun ⟨z1, z2, z3, z4, z5, z6⟩ => by first | contradiction | (have z7 := congrArg List.length z6; omega))]), rfl⟩
       ·refine g_yesA ?_
        refine g_fa ?_
        refine g_yesA ?_
        refine g_ld ?_
        refine g_yesA ?_
        refine g_pure (p_len (by rfl) rfl) rfl ?_
        refine g_yesA ?_
        refine g_fa ?_
        refine g_yesA ?_
        refine g_ld ?_
        refine g_yesA ?_
        refine g_pure (p_len (by rfl) rfl) rfl ?_
        refine g_yesA ?_
        refine g_pure (p_neq rfl rfl) rfl ?_
        first | refine g_pkt ?_ | refine g_pkf ?_
        refine g_nil <| g_qt ?_
        refine g_ifndL rfl (fun h21 => ?_) (fun h21 => ?_)
        ·refine g_seq <| g_region ?_
         refine g_as ?_
         refine g_nil <| g_qt <| g_ret <| g_qn_ret <| g_qt_ret <| g_qb_ret <| g_qt_ret <| g_qn_ret ?_
         refine g_qb_ret <| g_qt_ret ?_
         exact g_postA (rs := [.tmp 4]) rfl (.tmp rfl .nil) ⟨show Value.bool false = _ by (rw [hfalse (fun ⟨z1, z2, z3, z4, z5, z6⟩ => by first | contradiction | (have z7 := congrArg List.length z6; omega))]), rfl⟩
        ·refine g_skip <| g_qn ?_
         exact g_joinedA () ⟨⟨by assumption, by assumption, by assumption, by assumption, by assumption⟩, by omega⟩
  rintro _ ⟨⟨e1, e2, e3, e4, e5⟩, e6⟩
  refine g_qt <| g_seq <| g_region ?_
  refine g_as ?_
  refine g_nil <| g_qt <| g_block ?_
  refine g_loop (fun j : Nat => [(2, .pointer (some ⟨b2, 0, none⟩)), (3, .pointer (some ⟨b3, 0, none⟩)), (5, .int .i64 k), (6, .pointer (some ⟨b6, 0, none⟩)), (7, .pointer (some ⟨b7, 0, none⟩)), (8, .int .i64 j)])
   (fun _ => [Blk b6 (.cells [.string (strB u.1), .slice ia u.2.1.length ic, .slice oa u.2.2.1.length oc, .int .i64 u.2.2.2.1, .slice na u.2.2.2.2.1.length nc, .slice ca u.2.2.2.2.2.length cc].toArray 45 (0, 0)), Blk b7 (.cells [.string (strB v.1), .slice ia' v.2.1.length ic', .slice oa' v.2.2.1.length oc', .int .i64 v.2.2.2.1, .slice na' v.2.2.2.2.1.length nc', .slice ca' v.2.2.2.2.2.length cc'].toArray 45 (0, 0)), Blk b2 (.cells [.slice ea x.1.length ec, .slice ra x.2.length rc].toArray 25 (0, 0)), Blk b3 (.cells [.slice eb y.1.length ed, .slice rb y.2.length rd].toArray 25 (0, 0))])
   (fun j => j ≤ u.2.2.2.2.2.length ∧ u.2.2.2.2.2.take j = v.2.2.2.2.2.take j) (fun j => u.2.2.2.2.2.length - j) 0 ⟨Nat.zero_le _, rfl⟩ (by (repeat (first | exact trivial | refine ⟨by rfl, ?_⟩)); done) (by repeat' (first | exact Cover.nil | exact Take.here | apply Cover.cons | apply Take.there)) ?_
  rintro j ⟨hj1, hj2⟩
  refine g_seq <| g_seq <| g_region ?_
  refine g_mv ?_
  refine g_fa ?_
  refine g_ld ?_
  refine g_pure (p_len (by rfl) rfl) rfl ?_
  refine g_pure (p_lss rfl rfl) rfl ?_
  refine g_nil <| g_qt ?_
  refine g_ifd rfl (fun s => ?_) (fun s => ?_)
  ·have hja : j < u.2.2.2.2.2.length := by omega
   have hjb : j < v.2.2.2.2.2.length := by omega
   obtain ⟨m1, m2, m3⟩ := hpc (by omega)
   obtain ⟨n1, n2, n3⟩ := hqc (by omega)
   refine g_skip <| g_qt <| g_seq <| g_block <| g_seq ?_
   refine m_begin0 (.fl 0 0 (.fl 1 1 (.fl 2 0 (.fl 3 0 (.fl 4 1 (.fl 5 0 (.fl 6 1 (.fl 7 0 (.fl 8 0 (.fl 9 1 (.fl 10 0 .done))))))))))) (by kernel_rfl) (by kernel_rfl) ?_
   refine m_float0 rfl (fun _ _ => p_fieldAddr rfl) rfl ?_
   refine m_float rfl (p_loadA) rfl ?_
   refine m_float0 rfl (fun _ _ => p_move rfl) rfl ?_
   refine m_float0 rfl (fun _ _ => p_indexAddr rfl rfl (by omega) (fun _ => m1)) rfl ?_
   refine m_float rfl (p_loadN (by rfl) rfl (Has.ro m2) (by rw [Int.toNat_natCast]; exact (m3 j hja).1 (by decide))) rfl ?_
   refine m_float0 rfl (fun _ _ => p_fieldAddr rfl) rfl ?_
   refine m_float rfl (p_loadA) rfl ?_
   refine m_float0 rfl (fun _ _ => p_move rfl) rfl ?_
   refine m_float0 rfl (fun _ _ => p_indexAddr rfl rfl (by omega) (fun _ => n1)) rfl ?_
   refine m_float rfl (p_loadN (by rfl) rfl (Has.ro n2) (by rw [Int.toNat_natCast]; exact (n3 j hjb).1 (by decide))) rfl ?_
   refine m_float0 rfl (fun _ _ => p_neagg (eqIns 9998 u.2.2.2.2.2[j] v.2.2.2.2.2[j]) (by kernel_rfl) rfl rfl) rfl ?_
   refine m_nil ?_
   refine g_qt ?_
   refine g_ifnd rfl (fun h2 => ?_) (fun h2 => ?_)
   ·refine g_seq <| g_region ?_
    refine g_as ?_
    refine g_nil <| g_qt <| g_ret <| g_qb_ret <| g_qt_ret <| g_qn_ret <| g_qb_ret <| g_qb_ret ?_
    refine g_qt_ret <| g_qn_ret <| g_qb_ret <| g_qt_ret ?_
    exact g_postA (rs := [.tmp 4]) rfl (.tmp rfl .nil) ⟨by rw [hfalse (fun ⟨z1, z2, z3, z4, z5, z6⟩ => getElem_ne hja hjb h2 z6)]; rfl, rfl⟩
   ·have h2' : u.2.2.2.2.2[j] = v.2.2.2.2.2[j] := h2
    refine g_skip <| g_qb <| g_qt <| g_region ?_
    refine g_mv ?_
    first | refine g_pure (p_addi rfl rfl (by omega)) rfl ?_ | refine g_pure (p_add rfl rfl) rfl ?_
    refine g_as ?_
    refine g_nil <| g_qn ?_
    exact g_nextA (j + 1) ⟨hja, take_eq_step hja hjb hj2 h2'⟩ (by omega)
  ·rw [List.take_of_length_le (by omega), List.take_of_length_le (by omega)] at hj2
   refine g_exit <| g_qt_exit <| g_qn_exit <| g_qb_exit <| g_qb <| g_qt <| g_region ?_
   refine g_mv ?_
   first | refine g_pure (p_addi rfl rfl (by omega)) rfl ?_ | refine g_pure (p_add rfl rfl) rfl ?_
   refine g_as ?_
   refine g_nil <| g_qn ?_
   exact g_nextA (k + 1) ⟨hka, hstep (hrt.2 ⟨e1, e2, e3, e4, e5, hj2⟩)⟩ (by omega)
 ·rw [List.take_of_length_le (by omega), List.take_of_length_le (by omega)] at hk2
  refine g_exit <| g_qt_exit <| g_qn_exit <| g_qb_exit <| g_qt <| g_seq <| g_region ?_
  refine g_as ?_
  refine g_nil <| g_qt <| g_ret ?_
  exact g_postA (rs := [.tmp 4]) rfl (.tmp rfl .nil) ⟨by rw [decide_eq_true (p := x = y) (hiff.2 ⟨he1, hk2⟩)]; rfl, rfl⟩
end Go.Proofs.YtcnfcoojmbjdlaaGreatDoor
/- Chapter 26: numbers and words read: the library's contracts, the reader's small methods. Conditions: what the library's variables hold (LibA). -/
namespace Go.Z.Asm
set_option maxRecDepth 8000
set_option linter.unusedVariables false
set_option linter.unusedSimpArgs false
set_option linter.unusedSectionVars false
open Go Go.Z Go.Lib Go.Z.Txt
/-- the number that a word of a line is -/
def numA (w : List UInt8) : Option Int := match atoiAll w with
 | .ok n => if itoa n = w ∧ -2147483648 ≤ n ∧ n ≤ 2147483647 then some n else none
 | _ => none
theorem numA_in {w : List UInt8} {n : Int} (h : numA w = some n) : -2147483648 ≤ n ∧ n ≤ 2147483647 := by
 unfold numA at h
 split at h
 ·split at h
  ·rename_i h2; cases h; exact h2.2
  ·cases h
 ·cases h
/-- a line's number and the first error -/
abbrev RS := Nat × Int
def failS (x : Int) (s : RS) : RS := (s.1, if s.2 = 0 then x else s.2)
def doneS (s : RS) : RS := if s.2 = 0 then (s.1 + 1, 0) else s
def nextS (ls : List (List UInt8)) (s : RS) : List (List UInt8) × RS :=
 let s1 := if (ls.length : Int) - 1 ≤ s.1 then failS 4 s else s
 if s1.2 ≠ 0 then ([[]], s1) else let W := pieces 32 (ls.getD s.1 []); (W, if [] ∈ W then failS 5 s1 else s1)
def numbersS (W : List (List UInt8)) (many : Int) (s : RS) : RS :=
 let s1 := if W.any (fun w => (numA w).isNone) = true then failS 5 s else s
 doneS (if 0 ≤ many ∧ (W.length : Int) ≠ many then failS 5 s1 else s1)
def listS (ls : List (List UInt8)) (word : List UInt8) (many : Int) (s : RS) : RS :=
 let q := nextS ls s
 numbersS q.1.tail many (if q.1.headD [] ≠ word then failS 5 q.2 else q.2)
/-- the numbers of a line that is right -/
def numsV (W : List (List UInt8)) : List Int := W.map fun w => (numA w).getD 0
theorem nextS_ne (ls : List (List UInt8)) (s : RS) : (nextS ls s).1 ≠ [] := by
 unfold nextS
 dsimp only
 generalize (if (ls.length : Int) - 1 ≤ s.1 then failS 4 s else s) = s1
 by_cases h : s1.2 ≠ 0
 ·rw [if_pos h]; simp
 ·rw [if_neg h]; exact pieces_ne _ _
theorem failS_ne {x : Int} (hx : x ≠ 0) (s : RS) : (failS x s).2 ≠ 0 := by
 unfold failS; dsimp only
 split
 ·exact hx
 ·assumption
def strV (w : List UInt8) : Value := .string (strB w)
end Go.Z.Asm
namespace Go.Proofs.YtcnfcoojmbjdlaaGreatDoor
set_option maxRecDepth 8000
set_option linter.unusedVariables false
set_option linter.unusedSimpArgs false
set_option linter.unusedSectionVars false
open Go Go.Z Go.Z.Asm Go.RowKit Go.Z.Txt

structure LibA (ρ : Nat → Obj → Prop) : Prop where
 ops : OpsK ρ
 tab : TabK ρ
 syn : ∃ tp p, Knows ρ fun w => w.var? Tryz.prog "strconv.ErrSyntax" = some #[.iface tp p]
 rng : ∃ tp p, Knows ρ fun w => w.var? Tryz.prog "strconv.ErrRange" = some #[.iface tp p]
 mx : ∃ m, Knows ρ fun w => w.cell? ⟨1, 0, none⟩ = some (.int .i64 m)
theorem LibA.mono {ρ ρ' : Nat → Obj → Prop} (h : LibA ρ) (s : ∀ b o, ρ b o → ρ' b o) : LibA ρ' :=
 ⟨h.ops.mono s, h.tab.mono s, let ⟨a, b, c⟩ := h.syn; ⟨a, b, c.mono s⟩, let ⟨a, b, c⟩ := h.rng; ⟨a, b, c.mono s⟩, let ⟨a, c⟩ := h.mx; ⟨a, c.mono s⟩⟩
theorem itoa_ok {ρ : Nat → Obj → Prop} (hk : LibA ρ) (n : Int) (h0 : I64 n) : Con Tryz.prog ρ 105 #[.int .i64 n] [] (fun v H => v = .string (strB (Lib.itoa n)) ∧ H = []) :=
 con_below Tryz.call105 fun w hw => by
  have ht := hk.tab w hw
  have h : Calls Tryz.prog 105 #[.int .i64 n] w fun e w' => e = .returned (.string ⟨(Lib.itoa n).toArray⟩) ∧ ∃ k os, w' = Go.Sort.grow (w.drewN k) os := Any.strconv_Itoa laysM171 n h0.1 h0.2 w ht
  exact h.mono fun e w' ⟨e1, k, os, e2⟩ => ⟨_, e1, rfl, by subst e2; exact Lib.below_grow _ w (Nat.le_refl _) k os⟩
/-- what strconv.Atoi answers -/
def AtoiP (l : List UInt8) (v : Value) : Prop := match Lib.atoiAll l with
 | .ok n => v = .tuple #[.int .i64 n, .nilIface]
 | _ => ∃ n t p, v = .tuple #[.int .i64 n, .iface t p]
theorem atoi_ok {ρ : Nat → Obj → Prop} (hk : LibA ρ) (s : ByteArray) (hs : s.size ≤ 281474976710656) : Con Tryz.prog ρ 104 #[.string s] [] (fun v H => AtoiP s.data.toList v ∧ H = []) :=
 con_below Tryz.call104 fun w hw => by
  unfold AtoiP
  cases ha : Lib.atoiAll s.data.toList
  ·rename_i n
   have h : Calls Tryz.prog 104 #[.string s] w fun e w' => e = .returned (.tuple #[.int .i64 n, .nilIface]) ∧ (w' = w ∨ ∃ t, w' = Lib.bytesWorld w _ t) := Any.strconv_Atoi_ok laysC172 s (by omega) n ha w
   exact h.mono fun e w' ⟨e1, e2⟩ => ⟨_, e1, rfl, by
    rcases e2 with e2 | ⟨t, e2⟩
    ·subst e2; exact Below.refl _ _
    ·subst e2; exact Lib.bytesWorld_below _ _ _⟩
  ·obtain ⟨tp, p, hv⟩ := hk.syn
   exact (show Calls Tryz.prog 104 #[.string s] w _ from Any.strconv_Atoi_syntax_var laysC172 s hs ha tp p w (hv w hw)).mono fun e w' ⟨N, e1, _, _, hb⟩ => ⟨_, e1, ⟨_, _, _, rfl⟩, hb⟩
  ·obtain ⟨tp, p, hv⟩ := hk.rng
   exact (show Calls Tryz.prog 104 #[.string s] w _ from Any.strconv_Atoi_range_var laysC172 s hs ha tp p w (hv w hw)).mono fun e w' ⟨N, e1, _, _, hb⟩ => ⟨_, e1, ⟨_, _, _, rfl⟩, hb⟩
theorem split_ok {ρ : Nat → Obj → Prop} (hk : LibA ρ) (s : List UInt8) (c : UInt8) (hs : s.length < 4294967281) : Con Tryz.prog ρ 49 #[.string (strB s), .string ⟨#[c]⟩] []
  (fun v H => ∃ b : Nat, v = .slice (some ⟨b, 0, none⟩) (pieces c s).length (pieces c s).length ∧ H = [Blk b (.cells ((pieces c s).map strV).toArray 9 (0, 0))]) :=
 ⟨Tryz.call49, fun w hp sa su r => by
  obtain ⟨m, hm⟩ := hk.mx
  have h : Calls Tryz.prog 49 #[.string (strB s), .string ⟨#[c]⟩] w _ := Any.strings_Split lays146 (by kernel_rfl) (strB s) ⟨#[c]⟩ m w hs (hm w fun b o hb => (r b o hb).1) (show 1 ≤ 1 by decide)
  have hp1 : (Lib.splitB ⟨#[c]⟩ 0 (Lib.countB (strB s) ⟨#[c]⟩) (strB s)).map (·.data.toList) = pieces c s := splitB_pieces (strB s) c
  have hmap : (Lib.splitB ⟨#[c]⟩ 0 (Lib.countB (strB s) ⟨#[c]⟩) (strB s)).map Value.string = (pieces c s).map strV := by
   rw [← hp1, List.map_map]; rfl
  have hlen : (Lib.splitB ⟨#[c]⟩ 0 (Lib.countB (strB s) ⟨#[c]⟩) (strB s)).length = (pieces c s).length := by rw [← hp1, List.length_map]
  refine h.mono fun e w' ⟨e1, e2⟩ => ⟨_, [Blk w.heap.size (.cells ((pieces c s).map strV).toArray 9 (0, 0))], e1, ⟨w.heap.size, ?_, rfl⟩, ?_⟩
  ·rw [← hlen, Lib.splitB_all ⟨#[c]⟩ (show 1 ≤ 1 by decide) 0 _ (strB s) rfl]
  ·subst e2
   rw [← hmap]
   exact (ms_same sa su r).alloc _⟩
end Go.Proofs.YtcnfcoojmbjdlaaGreatDoor
/- Chapter 26: the reader's methods. Conditions: what the library's variables hold (LibA). -/
namespace Go.Z.Asm
set_option maxRecDepth 8000
set_option linter.unusedVariables false
set_option linter.unusedSimpArgs false
set_option linter.unusedSectionVars false
open Go Go.Z Go.Lib Go.Z.Txt
def Rd (T : TypeId) (p lb n : Nat) (s : RS) : Assn := Blk p (.cells [.slice (some ⟨lb, 0, none⟩) n n, .int .i64 s.1, .int .i64 s.2].toArray T (0, 0))
end Go.Z.Asm
namespace Go.Proofs.YtcnfcoojmbjdlaaGreatDoor
set_option maxRecDepth 8000
set_option linter.unusedVariables false
set_option linter.unusedSimpArgs false
set_option linter.unusedSectionVars false
open Go Go.Z Go.Z.Asm Go.RowKit Go.Z.Txt

theorem fail_ok {ρ : Nat → Obj → Prop} (p lb n : Nat) (s : RS) (x : Int) : Con Tryz.prog ρ 74 #[.pointer (some ⟨p, 0, none⟩), .int .i64 x] [Rd 73 p lb n s] (fun v H => v = .tuple #[] ∧ H = [Rd 73 p lb n (failS x s)]) := by
 obtain ⟨at', e⟩ := s
 unfold Rd failS
 dsimp only
 refine con_intro Tryz.func74 Tryz.call74 rfl Tryz.ntmps74 rfl (L := [(0, _), (1, _)]) rfl fun w hh => ?_
 refine g_seq <| g_region ?_
 refine g_mv ?_
 refine g_pure (p_nilCheck rfl) rfl ?_
 refine g_fa ?_
 refine g_ld ?_
 refine g_pure (p_eql rfl rfl) rfl ?_
 refine g_nil <| g_qt ?_
 refine g_ifd rfl (fun h => ?_) (fun h => ?_)
 ·rw [if_pos h]
  refine g_region ?_
  refine g_mv ?_
  refine g_mv ?_
  refine g_pure (p_nilCheck rfl) rfl ?_
  refine g_fa ?_
  first | refine g_eff0 (e_storeO rfl rfl (by rfl) (by rfl) (by rfl) (by repeat' (first | exact Take.here | apply Take.there)) (by rfl)) (fun _ _ => ?_) | refine g_eff0 (e_store1 (by rfl) rfl rfl rfl (by repeat' (first | exact Take.here | apply Take.there)) (by first | decide | (simp <;> omega) | omega)) (fun _ _ => ?_)
  rintro rfl
  refine g_nil ?_
  exact g_postn (rs := []) rfl .nil ⟨rfl, rfl⟩ (by repeat' (first | exact Cover.nil | exact Take.here | apply Cover.cons | apply Take.there))
 ·rw [if_neg h]
  refine g_skip ?_
  exact g_postn (rs := []) rfl .nil ⟨rfl, rfl⟩ (by repeat' (first | exact Cover.nil | exact Take.here | apply Cover.cons | apply Take.there))
theorem done_ok {ρ : Nat → Obj → Prop} (p lb n : Nat) (s : RS) (hs : s.1 ≤ 4611686018427387904) : Con Tryz.prog ρ 76 #[.pointer (some ⟨p, 0, none⟩)] [Rd 73 p lb n s] (fun v H => v = .tuple #[] ∧ H = [Rd 73 p lb n (doneS s)]) := by
 obtain ⟨at', e⟩ := s
 unfold Rd doneS
 dsimp only at hs ⊢
 refine con_intro Tryz.func76 Tryz.call76 rfl Tryz.ntmps76 rfl (L := [(0, _)]) rfl fun w hh => ?_
 refine g_seq <| g_region ?_
 refine g_mv ?_
 refine g_pure (p_nilCheck rfl) rfl ?_
 refine g_fa ?_
 refine g_ld ?_
 refine g_pure (p_eql rfl rfl) rfl ?_
 refine g_nil <| g_qt ?_
 refine g_ifd rfl (fun h => ?_) (fun h => ?_)
 ·rw [if_pos h]
  subst h
  refine g_region ?_
  refine g_mv ?_
  refine g_pure (p_nilCheck rfl) rfl ?_
  refine g_fa ?_
  refine g_ld ?_
  first | refine g_pure (p_addi rfl rfl (by omega)) rfl ?_ | refine g_pure (p_add rfl rfl) rfl ?_
  refine g_pure (p_nilCheck rfl) rfl ?_
  refine g_fa ?_
  first | refine g_eff0 (e_storeO rfl rfl (by rfl) (by rfl) (by rfl) (by repeat' (first | exact Take.here | apply Take.there)) (by rfl)) (fun _ _ => ?_) | refine g_eff0 (e_store1 (by rfl) rfl rfl rfl (by repeat' (first | exact Take.here | apply Take.there)) (by first | decide | (simp <;> omega) | omega)) (fun _ _ => ?_)
  rintro rfl
  refine g_nil ?_
  rw [show ((at' : Int) + 1) = ((at' + 1 : Nat) : Int) from rfl]
  exact g_postn (rs := []) rfl .nil ⟨rfl, rfl⟩ (by repeat' (first | exact Cover.nil | exact Take.here | apply Cover.cons | apply Take.there))
 ·rw [if_neg h]
  refine g_skip ?_
  exact g_postn (rs := []) rfl .nil ⟨rfl, rfl⟩ (by repeat' (first | exact Cover.nil | exact Take.here | apply Cover.cons | apply Take.there))

theorem strs_at {ρ : Nat → Obj → Prop} {a : Option Addr} {W : List (List UInt8)} (h : RSl ρ 1 a W.length (W.map strV)) : ∃ b off cs T fz, 0 < W.length → a = some ⟨b, off, none⟩ ∧ ρ b (.cells (cs : List Value).toArray T fz) ∧ ∀ (i : Nat) (hi : i < W.length), cs[off + (i : Int).toNat * 1]? = some (.string (strB W[i])) := by
 obtain ⟨_, b, off, cs, T, fz, hr⟩ := h
 exact ⟨b, off, cs, T, fz, fun h0 => ⟨(hr h0).1, (hr h0).2.1, fun i hi => by rw [Int.toNat_natCast, Nat.mul_one]; exact (hr h0).2.2 i _ (by simp [List.getElem?_eq_getElem hi, strV])⟩⟩
theorem idxS_ok {ρ : Nat → Obj → Prop} (a : Option Addr) (c : Nat) (W : List (List UInt8)) (hW : RSl ρ 1 a W.length (W.map strV)) (hl : W.length ≤ 4611686018427387904) :
  Con Tryz.prog ρ 103 #[.slice a W.length c, .string ⟨#[]⟩] [] (fun v H => v = .bool (decide ([] ∈ W)) ∧ H = []) := by
 have hin : ∀ {ρ'} (_ : ∀ b o, ρ b o → ρ' b o), Con Tryz.prog ρ' 122 #[.slice a W.length c, .string ⟨#[]⟩] [] (fun v H => (∃ z : Int, v = .int .i64 z ∧ decide (0 ≤ z) = decide ([] ∈ W)) ∧ H = []) := by
  intro ρ' hρ0
  obtain ⟨b, off, cs, T, fz, hr⟩ := strs_at (hW.mono hρ0)
  refine con_intro Tryz.func122 Tryz.call122 rfl Tryz.ntmps122 rfl (L := [(0, _), (1, _)]) rfl fun w hh => ?_
  refine g_seq <| g_region ?_
  refine g_as ?_
  refine g_nil <| g_qt <| g_seq <| g_seq <| g_region ?_
  refine g_mv ?_
  refine g_pure (p_len (by rfl) rfl) rfl ?_
  refine g_mv ?_
  refine g_nil <| g_qt <| g_block ?_
  refine g_loop (fun k : Nat => [(0, .slice a W.length c), (1, .string ⟨#[]⟩), (7, .int .i64 W.length), (8, .int .i64 k)]) (fun _ => []) (fun k => k ≤ W.length ∧ ∀ x ∈ W.take k, x ≠ []) (fun k => W.length - k) 0 ⟨Nat.zero_le _, by simp⟩ (by (repeat (first | exact trivial | refine ⟨by rfl, ?_⟩)); done) .nil ?_
  rintro k ⟨hk1, hk2⟩
  refine g_seq <| g_region ?_
  refine g_pure (p_lss rfl rfl) rfl ?_
  refine g_nil <| g_qt <| g_seq ?_
  refine g_ifd rfl (fun q => ?_) (fun q => ?_)
  ·have hkl : k < W.length := by omega
   obtain ⟨r1, r2, r3⟩ := hr (by omega)
   refine g_skip <| g_qt <| g_seq <| g_block <| g_seq <| g_region ?_
   refine g_mv ?_
   refine g_as ?_
   refine g_nil <| g_qt <| g_seq <| g_region ?_
   refine g_mv ?_
   refine g_mv ?_
   refine g_mv ?_
   refine g_pure (p_indexAddr rfl rfl (by omega) (fun _ => r1)) rfl ?_
   refine g_pure (p_load (by rfl) rfl (Has.ro r2) (r3 k hkl)) rfl ?_
   refine g_pure (p_eqls (by rfl) rfl rfl) rfl ?_
   refine g_nil <| g_qt ?_
   refine g_ifd rfl (fun h2 => ?_) (fun h2 => ?_)
   ·have h2' : W[k] = [] := ((strB_inj (a := [])).1 h2).symm
    refine g_seq <| g_region ?_
    refine g_mv ?_
    refine g_as ?_
    refine g_nil <| g_qt <| g_ret <| g_qb_ret <| g_qt_ret <| g_qn_ret <| g_qb_ret <| g_qt_ret ?_
    exact g_post (rs := [.tmp 4]) rfl (.tmp rfl .nil) ⟨⟨_, rfl, by rw [decide_eq_true (p := (0 : Int) ≤ k) (by omega), decide_eq_true]; rw [← h2']; exact List.getElem_mem hkl⟩, rfl⟩ .nil
   ·have h2' : W[k] ≠ [] := fun e => h2 ((strB_inj (a := [])).2 e.symm)
    refine g_skip <| g_qb <| g_qt <| g_region ?_
    first | refine g_pure (p_addi rfl rfl (by omega)) rfl ?_ | refine g_pure (p_add rfl rfl) rfl ?_
    refine g_mv ?_
    refine g_nil <| g_qn ?_
    exact g_next (k + 1) (by (repeat (first | exact trivial | refine ⟨by rfl, ?_⟩)); done) .nil ⟨hkl, take_all hkl hk2 h2'⟩ (by omega)
  ·rw [List.take_of_length_le (by omega)] at hk2
   refine g_exit <| g_qt_exit <| g_qn_exit <| g_qb_exit <| g_qt <| g_seq <| g_region ?_
   refine g_as ?_
   refine g_nil <| g_qt <| g_ret ?_
   exact g_post (rs := [.tmp 4]) rfl (.tmp rfl .nil) ⟨⟨_, rfl, by rw [decide_eq_false (p := [] ∈ W) (fun h => hk2 _ h rfl)]; rfl⟩, rfl⟩ .nil
 refine con_intro Tryz.func103 Tryz.call103 rfl Tryz.ntmps103 rfl (L := [(0, _), (1, _)]) rfl fun w hh => ?_
 refine g_seq <| g_region ?_
 refine g_as ?_
 refine g_nil <| g_qt <| g_seq <| g_region ?_
 refine g_mv ?_
 refine g_mv ?_
 refine g_call (Hin := []) (Hr := ?hr1) (R := ?rr1) rfl rfl rfl ?hin1 ?hc1 ?hk1
 case hin1 => repeat' (first | exact Cover.nil | exact Take.here | apply Cover.cons | apply Take.there)
 case hc1 => intro ρ' hρ hR; exact hin hρ
 rintro _ _ ⟨⟨z, rfl, hz⟩, rfl⟩
 refine g_pure (p_geq rfl rfl) rfl ?_
 refine g_as ?_
 refine g_nil <| g_qt <| g_ret ?_
 exact g_post (rs := [.tmp 4]) rfl (.tmp rfl .nil) ⟨by rw [← hz]; rfl, rfl⟩ .nil

/-- the lines of a text that is being read -/
structure Lns (ρ : Nat → Obj → Prop) (lb : Nat) (ls : List (List UInt8)) : Prop where
 mem : ∃ T fz, ρ lb (.cells (ls.map strV).toArray T fz)
 pos : 0 < ls.length
 len : ls.length ≤ 4611686018427387904
 each : ∀ l ∈ ls, l.length < 4294967281
theorem Lns.mono {ρ ρ' : Nat → Obj → Prop} {lb : Nat} {ls : List (List UInt8)} (h : Lns ρ lb ls) (s : ∀ b o, ρ b o → ρ' b o) : Lns ρ' lb ls := ⟨let ⟨T, fz, r⟩ := h.mem; ⟨T, fz, s _ _ r⟩, h.pos, h.len, h.each⟩
theorem pieces_len (c : UInt8) (l : List UInt8) : (pieces c l).length ≤ l.length + 1 := by
 induction l with
 | nil => simp [pieces]
 | cons b l ih =>
  unfold pieces
  split
  ·simp; omega
  ·split
   ·simp
   ·rename_i h; rw [h] at ih; simp at ih ⊢; omega

theorem next_ok {ρ : Nat → Obj → Prop} (hk : LibA ρ) {lb : Nat} {ls : List (List UInt8)} (hL : Lns ρ lb ls) (p : Nat) (s : RS) (hs : s.1 < ls.length) :
  Con Tryz.prog ρ 73 #[.pointer (some ⟨p, 0, none⟩)] [Rd 73 p lb ls.length s]
  (fun v H => ∃ wb : Nat, v = .slice (some ⟨wb, 0, none⟩) (nextS ls s).1.length (nextS ls s).1.length ∧ H = [Blk wb (.cells ((nextS ls s).1.map strV).toArray 9 (0, 0)), Rd 73 p lb ls.length (nextS ls s).2]) := by
 obtain ⟨LT, lz, hlb⟩ := hL.mem
 have hll := hL.len
 have hpos := hL.pos
 have hNx : ∀ s1 : RS, (if (ls.length : Int) - 1 ≤ s.1 then failS 4 s else s) = s1 → nextS ls s = if s1.2 ≠ 0 then ([[]], s1) else (pieces 32 (ls.getD s.1 []), if [] ∈ pieces 32 (ls.getD s.1 []) then failS 5 s1 else s1) := fun s1 h => by unfold nextS; rw [h]
 generalize nextS ls s = N at hNx ⊢
 refine con_intro Tryz.func73 Tryz.call73 rfl Tryz.ntmps73 rfl (L := [(0, _)]) rfl fun w hh => ?_
 refine g_seq <| g_region ?_
 refine g_as ?_
 refine g_nil <| g_qt <| g_seq ?_
 refine g_join (fun _ : Unit => [(0, .pointer (some ⟨p, 0, none⟩))]) (fun _ => [Rd 73 p lb ls.length (if (ls.length : Int) - 1 ≤ s.1 then failS 4 s else s)]) (fun _ => True) ?_ ?_
 ·unfold Rd
  refine g_seq ?_
  refine m_begin0 (.fl 0 0 (.fl 1 0 (.fl 2 0 (.fl 3 1 (.fl 4 0 (.fl 5 0 (.fl 6 0 (.fl 7 1 (.fl 8 0 (.fl 9 0 (.fl 10 0 .done))))))))))) (by kernel_rfl) (by kernel_rfl) ?_
  refine m_float0 rfl (fun _ _ => p_move rfl) rfl ?_
  refine m_float0 rfl (fun _ _ => p_nilCheck rfl) rfl ?_
  refine m_float0 rfl (fun _ _ => p_fieldAddr rfl) rfl ?_
  refine m_float rfl (p_loadA) rfl ?_
  refine m_float0 rfl (fun _ _ => p_move rfl) rfl ?_
  refine m_float0 rfl (fun _ _ => p_nilCheck rfl) rfl ?_
  refine m_float0 rfl (fun _ _ => p_fieldAddr rfl) rfl ?_
  refine m_float rfl (p_loadA) rfl ?_
  refine m_float0 rfl (fun _ _ => p_len (by rfl) rfl) rfl ?_
  first | refine m_float0 rfl (fun _ _ => p_subi rfl rfl (by omega)) rfl ?_ | refine m_float0 rfl (fun _ _ => p_sub rfl rfl) rfl ?_
  refine m_float0 rfl (fun _ _ => p_geq rfl rfl) rfl ?_
  refine m_nil ?_
  refine g_qt ?_
  refine g_ifd rfl (fun h1 => ?_) (fun h1 => ?_)
  ·rw [if_pos h1]
   refine g_region ?_
   refine g_mv ?_
   refine g_call (Hin := [Rd 73 p lb ls.length s]) (Hr := ?hr2) (R := ?rr2) rfl rfl rfl ?hin2 ?hc2 ?hk2
   case hin2 => repeat' (first | exact Cover.nil | exact Take.here | apply Cover.cons | apply Take.there)
   case hc2 => intro ρ' hρ hR; exact fail_ok p lb ls.length s 4
   rintro _ _ ⟨rfl, rfl⟩
   refine g_nil <| g_qn ?_
   exact g_joinedA () trivial
  ·rw [if_neg h1]
   refine g_skip <| g_qn ?_
   exact g_joinedA () trivial
 rintro _ -
 refine g_qt ?_
 have hs1at : (if (ls.length : Int) - 1 ≤ s.1 then failS 4 s else s).1 = s.1 := by split <;> rfl
 have hs1e : (if (ls.length : Int) - 1 ≤ s.1 then failS 4 s else s).2 = 0 → (s.1 : Int) < ls.length - 1 := fun h => by
  by_cases h1 : (ls.length : Int) - 1 ≤ s.1
  ·rw [if_pos h1] at h; exact absurd h (failS_ne (by decide) s)
  ·omega
 generalize hs1 : (if (ls.length : Int) - 1 ≤ s.1 then failS 4 s else s) = s1 at hs1at hs1e
 have hN := hNx s1 hs1
 obtain ⟨a1, e1⟩ := s1
 dsimp only at hs1at hs1e hN
 subst hs1at
 unfold Rd
 dsimp only
 refine g_seq <| g_seq <| g_region ?_
 refine g_mv ?_
 refine g_pure (p_nilCheck rfl) rfl ?_
 refine g_fa ?_
 refine g_ld ?_
 refine g_pure (p_neq rfl rfl) rfl ?_
 refine g_nil <| g_qt ?_
 refine g_ifnd rfl (fun h2 => ?_) (fun h2 => ?_)
 ·rw [if_pos h2] at hN
  subst hN
  refine g_seq <| g_region ?_
  refine g_eff (e_bs (xs := [.const (.string (⟨#[]⟩))]) rfl rfl rfl (by rfl) (by rfl) rfl (by rfl)) rfl (fun _ _ => ?_)
  rintro ⟨b22, rfl, rfl⟩
  refine g_as ?_
  refine g_nil <| g_qt <| g_ret <| g_qt_ret ?_
  exact g_postA (rs := [.tmp 2]) rfl (.tmp rfl .nil) ⟨b22, rfl, rfl⟩
 ·rw [if_neg (fun h => h h2)] at hN
  have hat : s.1 < ls.length := hs
  have hget : ls.getD s.1 [] = ls[s.1] := by rw [List.getD_eq_getElem?_getD, List.getElem?_eq_getElem hat]; rfl
  have hx : (ls.map strV)[0 + (s.1 : Int).toNat * 1]? = some (.string (strB ls[s.1])) := by rw [Int.toNat_natCast, Nat.mul_one, Nat.zero_add, List.getElem?_map, List.getElem?_eq_getElem hat]; rfl
  rw [hget] at hN
  have hle := hL.each _ (List.getElem_mem hat)
  have hpl := pieces_len 32 ls[s.1]
  generalize hli : ls[s.1] = li at hN hx hle hpl
  refine g_skip <| g_qt <| g_seq ?_
  refine m_begin0 (.fl 0 0 (.fl 1 0 (.fl 2 0 (.fl 3 1 (.fl 4 0 (.fl 5 0 (.fl 6 0 (.fl 7 1 (.fl 8 0 (.fl 9 1 (.ef 10 (.fl 11 0 .done)))))))))))) (by kernel_rfl) (by kernel_rfl) ?_
  refine m_float0 rfl (fun _ _ => p_move rfl) rfl ?_
  refine m_float0 rfl (fun _ _ => p_nilCheck rfl) rfl ?_
  refine m_float0 rfl (fun _ _ => p_fieldAddr rfl) rfl ?_
  refine m_float rfl (p_loadA) rfl ?_
  refine m_float0 rfl (fun _ _ => p_move rfl) rfl ?_
  refine m_float0 rfl (fun _ _ => p_nilCheck rfl) rfl ?_
  refine m_float0 rfl (fun _ _ => p_fieldAddr rfl) rfl ?_
  refine m_float rfl (p_loadA) rfl ?_
  refine m_float0 rfl (fun _ _ => p_indexAddr rfl rfl (by omega) (fun _ => rfl)) rfl ?_
  refine m_float rfl (p_load (by rfl) rfl (Has.ro hlb) hx) rfl ?_
  refine m_call (Hin := []) (Hr := ?hr3) (R := ?rr3) rfl wantedN rfl rfl rfl ?hin3 ?hc3 ?hk3
  case hin3 => repeat' (first | exact Cover.nil | exact Take.here | apply Cover.cons | apply Take.there)
  case hc3 => intro ρ' hρ hR; exact split_ok (hk.mono hρ) li 32 hle
  rintro _ _ ⟨b33, rfl, rfl⟩
  refine ⟨.none (by kernel_rfl), ?_⟩
  refine m_float0 rfl (fun _ _ => p_assign rfl) rfl ?_
  refine m_nil ?_
  refine g_qt <| g_seq <| g_seq <| g_region ?_
  refine g_mv ?_
  refine g_call (Hin := []) (Hr := ?hr4) (R := ?rr4) rfl rfl rfl ?hin4 ?hc4 ?hk4
  case hin4 => repeat' (first | exact Cover.nil | exact Take.here | apply Cover.cons | apply Take.there)
  case hc4 => intro ρ' hρ hR; exact idxS_ok (some ⟨b33, 0, none⟩) (pieces 32 li).length (pieces 32 li) (by have := RSl.of_blk (k := (pieces 32 li).length) (size := 1) (Take.ro (A := Blk b33 (.cells ((pieces 32 li).map strV).toArray 9 (0, 0))) (by repeat' (first | exact Take.here | apply Take.there)) hR).blk (by simp); rwa [Nat.mul_one, List.take_of_length_le (by simp)] at this) (by omega)
  rintro _ _ ⟨rfl, rfl⟩
  refine g_nil <| g_qt ?_
  refine g_ifd rfl (fun h3 => ?_) (fun h3 => ?_)
  ·rw [if_pos h3] at hN
   subst hN
   refine g_region ?_
   refine g_mv ?_
   refine g_call (Hin := [Rd 73 p lb ls.length (s.1, e1)]) (Hr := ?hr5) (R := ?rr5) rfl rfl rfl ?hin5 ?hc5 ?hk5
   case hin5 => repeat' (first | exact Cover.nil | exact Take.here | apply Cover.cons | apply Take.there)
   case hc5 => intro ρ' hρ hR; exact fail_ok p lb ls.length (s.1, e1) 5
   rintro _ _ ⟨rfl, rfl⟩
   refine g_nil <| g_qt <| g_seq <| g_region ?_
   refine g_mv ?_
   refine g_as ?_
   refine g_nil <| g_qt <| g_ret ?_
   exact g_postA (rs := [.tmp 2]) rfl (.tmp rfl .nil) ⟨b33, rfl, rfl⟩
  ·rw [if_neg h3] at hN
   subst hN
   refine g_skip <| g_qt <| g_seq <| g_region ?_
   refine g_mv ?_
   refine g_as ?_
   refine g_nil <| g_qt <| g_ret ?_
   exact g_postA (rs := [.tmp 2]) rfl (.tmp rfl .nil) ⟨b33, rfl, rfl⟩
end Go.Proofs.YtcnfcoojmbjdlaaGreatDoor
/- Chapter 26: the numbers of a line. Conditions: what the library's variables hold (LibA). -/
namespace Go.Z.Asm
set_option maxRecDepth 8000
set_option linter.unusedVariables false
set_option linter.unusedSimpArgs false
set_option linter.unusedSectionVars false
open Go Go.Z Go.Lib Go.Z.Txt
def badS (W : List (List UInt8)) (s : RS) : RS := if W.any (fun w => (numA w).isNone) = true then failS 5 s else s
theorem failS_two (x : Int) (hx : x ≠ 0) (s : RS) : failS x (failS x s) = failS x s := by
 unfold failS; dsimp only
 by_cases h : s.2 = 0
 ·rw [if_pos h, if_neg hx]
 ·rw [if_neg h, if_neg h]
theorem badS_step (W : List (List UInt8)) (s : RS) {k : Nat} (hk : k < W.length) : badS (W.take (k + 1)) s = if numA W[k] = none then failS 5 (badS (W.take k) s) else badS (W.take k) s := by
 unfold badS
 rw [List.take_add_one, List.getElem?_eq_getElem hk, List.any_append]
 cases h : (W.take k).any (fun w => (numA w).isNone)
 ·by_cases h2 : numA W[k] = none
  ·simp [h2]
  ·have h3 : (numA W[k]).isNone = false := by cases hn : numA W[k] with
    | none => exact absurd hn h2
    | some n => rfl
   simp [h2, h3]
 ·by_cases h2 : numA W[k] = none
  ·simp [h2, failS_two]
  ·simp [h2]
theorem badS_at (W : List (List UInt8)) (s : RS) : (badS W s).1 = s.1 := by unfold badS; split <;> rfl
theorem numbersS_eq (W : List (List UInt8)) (many : Int) (s : RS) : numbersS W many s = doneS (if 0 ≤ many ∧ (W.length : Int) ≠ many then failS 5 (badS W s) else badS W s) := rfl
theorem badS_ok {W : List (List UInt8)} {s : RS} (h : (badS W s).2 = 0) : ∀ w ∈ W, numA w ≠ none := fun w hw hn => by
 unfold badS at h
 rw [if_pos (List.any_eq_true.2 ⟨w, hw, by rw [hn]; rfl⟩)] at h
 exact failS_ne (by decide) s h
theorem numbersS_zero {W : List (List UInt8)} {many : Int} {s : RS} (h : (numbersS W many s).2 = 0) : (badS W s).2 = 0 ∧ (0 ≤ many → (W.length : Int) = many) := by
 rw [numbersS_eq] at h
 have hd : ∀ t : RS, (doneS t).2 = 0 → t.2 = 0 := fun t ht => by
  unfold doneS at ht
  split at ht
  ·assumption
  ·exact ht
 have h1 := hd _ h
 by_cases h2 : 0 ≤ many ∧ (W.length : Int) ≠ many
 ·rw [if_pos h2] at h1; exact absurd h1 (failS_ne (by decide) _)
 ·rw [if_neg h2] at h1; exact ⟨h1, by omega⟩
end Go.Z.Asm
namespace Go.Proofs.YtcnfcoojmbjdlaaGreatDoor
set_option maxRecDepth 8000
set_option linter.unusedVariables false
set_option linter.unusedSimpArgs false
set_option linter.unusedSectionVars false
open Go Go.Z Go.Z.Asm Go.RowKit Go.Z.Txt

theorem numbers_ok {ρ : Nat → Obj → Prop} (hk : LibA ρ) (p lb n : Nat) (s : RS) (hs : s.1 ≤ 4611686018427387903) (a : Option Addr) (c : Nat) (W : List (List UInt8)) (hW : RSl ρ 1 a W.length (W.map strV)) (hl : W.length ≤ 4294967296) (hlen : ∀ w ∈ W, w.length < 4294967281) (many : Int) :
  Con Tryz.prog ρ 75 #[.pointer (some ⟨p, 0, none⟩), .slice a W.length c, .int .i64 many] [Rd 73 p lb n s]
  (fun v H => ∃ oa oc, ∃ out : List Int, v = .slice oa W.length oc ∧ out.length = W.length ∧ ((numbersS W many s).2 = 0 → out = numsV W) ∧ H = [OwnSl 3 1 oa W.length oc (out.map encI), Rd 73 p lb n (numbersS W many s)]) := by
 obtain ⟨b, off, cs, T, fz, hr⟩ := strs_at hW
 rw [numbersS_eq]
 have hz := numbersS_zero (W := W) (many := many) (s := s)
 rw [numbersS_eq] at hz
 refine con_intro Tryz.func75 Tryz.call75 rfl Tryz.ntmps75 rfl (L := [(0, _), (1, _), (2, _)]) rfl fun w hh => ?_
 refine g_seq <| g_region ?_
 refine g_as ?_
 refine g_nil <| g_qt <| g_seq <| g_region ?_
 refine g_as ?_
 refine g_nil <| g_qt <| g_seq <| g_seq <| g_region ?_
 refine g_mv ?_
 refine g_pure (p_len (by rfl) rfl) rfl ?_
 refine g_mv ?_
 refine g_nil <| g_qt <| g_block ?_
 refine g_ownnil (e := 3) (size := 1) ?_
 refine g_loop (fun q : Nat × Option Addr × Nat × List Int => [(0, .pointer (some ⟨p, 0, none⟩)), (1, .slice a W.length c), (2, .int .i64 many), (7, .slice q.2.1 q.1 q.2.2.1), (12, .slice a W.length c), (13, .int .i64 W.length), (14, .int .i64 q.1)])
  (fun q => [OwnSl 3 1 q.2.1 q.1 q.2.2.1 (q.2.2.2.map encI), Rd 73 p lb n (badS (W.take q.1) s)]) (fun q => q.1 ≤ W.length ∧ q.2.2.2.length = q.1 ∧ ((∀ w ∈ W.take q.1, numA w ≠ none) → q.2.2.2 = numsV (W.take q.1))) (fun q => W.length - q.1) (0, none, 0, []) ⟨Nat.zero_le _, rfl, fun _ => rfl⟩ (by (repeat (first | exact trivial | refine ⟨by rfl, ?_⟩)); done) (by repeat' (first | exact Cover.nil | exact Take.here | apply Cover.cons | apply Take.there)) ?_
 rintro ⟨k, oa, oc, out⟩ ⟨hk1, hk2, hk3⟩
 dsimp only at hk1 hk2 hk3 ⊢
 refine g_seq <| g_region ?_
 refine g_pure (p_lss rfl rfl) rfl ?_
 refine g_nil <| g_qt <| g_seq ?_
 refine g_ifd rfl (fun q => ?_) (fun q => ?_)
 ·have hkl : k < W.length := by omega
  obtain ⟨r1, r2, r3⟩ := hr (by omega)
  have hst := badS_step W s hkl
  have hwl := hlen _ (List.getElem_mem hkl)
  have hsz : (strB W[k]).size = W[k].length := rfl
  refine g_skip <| g_qt <| g_seq <| g_block <| g_seq <| g_region ?_
  refine g_pure (p_indexAddr rfl rfl (by omega) (fun _ => r1)) rfl ?_
  refine g_pure (p_load (by rfl) rfl (Has.ro r2) (r3 k hkl)) rfl ?_
  refine g_as ?_
  refine g_nil <| g_qt <| g_seq <| g_region ?_
  refine g_mv ?_
  refine g_call (Hin := []) (Hr := ?hr1) (R := ?rr1) rfl rfl rfl ?hin1 ?hc1 ?hk1
  case hin1 => repeat' (first | exact Cover.nil | exact Take.here | apply Cover.cons | apply Take.there)
  case hc1 => intro ρ' hρ hR; exact atoi_ok (hk.mono hρ) (strB W[k]) (by omega)
  rintro _ _ ⟨hat, rfl⟩
  rename_i av
  have hat' : AtoiP W[k] av := hat
  have hnumv : ∀ m : Int, numA W[k] = some m → (∀ w ∈ W.take (k + 1), numA w ≠ none) → out ++ [m] = numsV (W.take (k + 1)) := fun m hm h => by
   have h1 := hk3 fun w hw => h w (by rw [List.take_add_one]; exact List.mem_append_left _ hw)
   rw [h1]
   unfold numsV
   rw [List.take_add_one, List.getElem?_eq_getElem hkl, Option.toList_some, List.map_append]
   simp [hm]
  have hnone : numA W[k] = none → ∀ z : Int, (∀ w ∈ W.take (k + 1), numA w ≠ none) → out ++ [z] = numsV (W.take (k + 1)) := fun hn z h => absurd hn (h _ (by rw [List.take_add_one, List.getElem?_eq_getElem hkl]; exact List.mem_append_right _ List.mem_cons_self))
  unfold AtoiP at hat'
  have hnum : numA W[k] = match Lib.atoiAll W[k] with | .ok n => if Lib.itoa n = W[k] ∧ -2147483648 ≤ n ∧ n ≤ 2147483647 then some n else none | _ => none := rfl
  generalize hs' : badS (W.take (k + 1)) s = s' at hst
  generalize badS (W.take k) s = s0 at hst ⊢
  have hcases : (∃ m, Lib.atoiAll W[k] = .ok m) ∨ (numA W[k] = none ∧ ∃ z tt pp, av = .tuple #[.int .i64 z, .iface tt pp]) := by
   rcases hA : Lib.atoiAll W[k] with m | _ | _
   ·exact .inl ⟨m, rfl⟩
   ·rw [hA] at hat' hnum; exact .inr ⟨hnum, hat'⟩
   ·rw [hA] at hat' hnum; exact .inr ⟨hnum, hat'⟩
  rcases hcases with ⟨m, hA⟩ | ⟨hnum, z, tt, pp, rfl⟩
  ·rw [hA] at hat' hnum
   dsimp only at hat' hnum
   subst hat'
   have hI : I64 m ∨ True := .inr trivial
   have hmI : I64 m := Lib.atoiAll_bounds hA
   have hno : ¬ (strB (Lib.itoa m) = strB W[k] ∧ -2147483648 ≤ m ∧ m ≤ 2147483647) → s' = failS 5 s0 := fun h => by
    rw [hst, if_pos]
    rw [hnum, if_neg]
    exact fun ⟨z1, z2, z3⟩ => h ⟨strB_inj.2 z1, z2, z3⟩
   have hyes : strB (Lib.itoa m) = strB W[k] ∧ -2147483648 ≤ m ∧ m ≤ 2147483647 → s' = s0 := fun h => by
    rw [hst, if_neg]
    rw [hnum, if_pos ⟨strB_inj.1 h.1, h.2⟩]
    simp
   refine g_mv ?_
   refine g_pure (p_extract rfl rfl) rfl ?_
   refine g_pure (p_extract rfl rfl) rfl ?_
   refine g_as ?_
   refine g_as ?_
   refine g_nil <| g_qt <| g_seq ?_
   refine g_join (fun _ : Unit => [(0, .pointer (some ⟨p, 0, none⟩)), (1, .slice a W.length c), (2, .int .i64 many), (7, .slice oa k oc), (10, .int .i64 m), (12, .slice a W.length c), (13, .int .i64 W.length), (14, .int .i64 k)]) (fun _ => [OwnSl 3 1 oa k oc (out.map encI), Rd 73 p lb n s']) (fun _ => True) ?_ ?_
   ·refine g_seq <| g_region ?_
    refine g_mv ?_
    refine g_pure (p_neqifF (by rfl) rfl rfl) rfl ?_
    refine g_mv ?_
    refine g_yesA ?_
    refine g_mv ?_
    refine g_yesA ?_
    refine g_call (Hin := []) (Hr := ?hr2) (R := ?rr2) rfl rfl rfl ?hin2 ?hc2 ?hk2
    case hin2 => repeat' (first | exact Cover.nil | exact Take.here | apply Cover.cons | apply Take.there)
    case hc2 => intro ρ' hρ hR; exact itoa_ok (hk.mono hρ) m hmI
    rintro _ _ ⟨rfl, rfl⟩
    refine g_yesA ?_
    refine g_mv ?_
    refine g_yesA ?_
    refine g_pure (p_neqs (i := strB (Lib.itoa m)) (j := strB W[k]) (by rfl) rfl rfl) rfl ?_
    first | refine g_pkt ?_ | refine g_pkf ?_
    refine g_mv ?_
    refine g_splitnd rfl rfl (fun h2 => ?_) (fun h2 => ?_)
    ·refine g_noA ?_
     refine g_noA ?_
     first | refine g_pkt ?_ | refine g_pkf ?_
     refine g_mv ?_
     refine g_noA ?_
     refine g_noA ?_
     first | refine g_pkt ?_ | refine g_pkf ?_
     refine g_nil <| g_qt ?_
     refine g_ift rfl ?_
     refine g_region ?_
     refine g_mv ?_
     refine g_call (Hin := [Rd 73 p lb n s0]) (Hr := ?hr3) (R := ?rr3) rfl rfl rfl ?hin3 ?hc3 ?hk3
     case hin3 => repeat' (first | exact Cover.nil | exact Take.here | apply Cover.cons | apply Take.there)
     case hc3 => intro ρ' hρ hR; exact fail_ok p lb n s0 5
     rintro _ _ ⟨rfl, rfl⟩
     refine g_nil <| g_qn ?_
     first | (rw [hno (fun ⟨z1, z2, z3⟩ => by first | contradiction | omega)]; exact g_joinedA () trivial) | (rw [hyes ⟨by assumption, by omega, by omega⟩]; exact g_joinedA () trivial)
    ·refine g_yesA ?_
     refine g_mv ?_
     refine g_yesA ?_
     refine g_pure (p_lss rfl rfl) rfl ?_
     first | refine g_pkt ?_ | refine g_pkf ?_
     refine g_mv ?_
     refine g_splitd rfl rfl (fun h5 => ?_) (fun h5 => ?_)
     ·refine g_noA ?_
      refine g_noA ?_
      first | refine g_pkt ?_ | refine g_pkf ?_
      refine g_nil <| g_qt ?_
      refine g_ift rfl ?_
      refine g_region ?_
      refine g_mv ?_
      refine g_call (Hin := [Rd 73 p lb n s0]) (Hr := ?hr4) (R := ?rr4) rfl rfl rfl ?hin4 ?hc4 ?hk4
      case hin4 => repeat' (first | exact Cover.nil | exact Take.here | apply Cover.cons | apply Take.there)
      case hc4 => intro ρ' hρ hR; exact fail_ok p lb n s0 5
      rintro _ _ ⟨rfl, rfl⟩
      refine g_nil <| g_qn ?_
      first | (rw [hno (fun ⟨z1, z2, z3⟩ => by first | contradiction | omega)]; exact g_joinedA () trivial) | (rw [hyes ⟨by assumption, by omega, by omega⟩]; exact g_joinedA () trivial)
     ·refine g_yesA ?_
      refine g_mv ?_
      refine g_yesA ?_
      refine g_pure (p_gtr rfl rfl) rfl ?_
      first | refine g_pkt ?_ | refine g_pkf ?_
      refine g_nil <| g_qt ?_
      refine g_ifdL rfl (fun h7 => ?_) (fun h7 => ?_)
      ·refine g_region ?_
       refine g_mv ?_
       refine g_call (Hin := [Rd 73 p lb n s0]) (Hr := ?hr5) (R := ?rr5) rfl rfl rfl ?hin5 ?hc5 ?hk5
       case hin5 => repeat' (first | exact Cover.nil | exact Take.here | apply Cover.cons | apply Take.there)
       case hc5 => intro ρ' hρ hR; exact fail_ok p lb n s0 5
       rintro _ _ ⟨rfl, rfl⟩
       refine g_nil <| g_qn ?_
       first | (rw [hno (fun ⟨z1, z2, z3⟩ => by first | contradiction | omega)]; exact g_joinedA () trivial) | (rw [hyes ⟨by assumption, by omega, by omega⟩]; exact g_joinedA () trivial)
      ·refine g_skip <| g_qn ?_
       first | (rw [hno (fun ⟨z1, z2, z3⟩ => by first | contradiction | omega)]; exact g_joinedA () trivial) | (rw [hyes ⟨by assumption, by omega, by omega⟩]; exact g_joinedA () trivial)
   rintro _ -
   refine g_qt <| g_region ?_
   refine g_mv ?_
   refine g_mv ?_
   refine g_eff (e_bs (xs := [.tmp 42]) rfl rfl rfl (by rfl) (by rfl) rfl (by rfl)) rfl (fun _ _ => ?_)
   rintro ⟨b43, rfl, rfl⟩
   refine g_eff (e_appendO (by rfl) (by rfl) rfl rfl (by first | (apply Has.own; (repeat' (first | exact Take.here | apply Take.there)); done) | exact Has.ro (by assumption)) (by rfl) (by rfl) (by repeat' (first | exact Take.here | apply Take.there)) (by omega) (by first | omega | (dsimp only; omega) | (simp <;> omega)) (by omega)) rfl (fun _ _ => ?_)
   rintro ⟨a44, c44, rfl, rfl⟩
   refine g_as ?_
   refine g_nil <| g_qb <| g_qt <| g_region ?_
   first | refine g_pure (p_addi rfl rfl (by omega)) rfl ?_ | refine g_pure (p_add rfl rfl) rfl ?_
   refine g_mv ?_
   refine g_nil <| g_qn ?_
   rw [show out.map encI ++ [Value.int IntKind.i64 m] = (out ++ [m]).map encI by rw [List.map_append]; rfl]
   rw [← hs']
   exact g_nextA (k + 1, a44, c44, out ++ [m]) ⟨hkl, by dsimp only; rw [List.length_append, hk2]; rfl, fun h => by
    dsimp only at h ⊢
    by_cases hn : numA W[k] = none
    ·exact hnone hn m h
    ·rw [hnum] at hn
     have : numA W[k] = some m := by
      rw [hnum]
      split
      ·rfl
      ·rename_i hh; rw [if_neg hh] at hn; exact absurd rfl hn
     exact hnumv m this h⟩ (by dsimp only; omega)
  ·rw [if_pos hnum] at hst
   subst hst
   refine g_mv ?_
   refine g_pure (p_extract rfl rfl) rfl ?_
   refine g_pure (p_extract rfl rfl) rfl ?_
   refine g_as ?_
   refine g_as ?_
   refine g_nil <| g_qt <| g_seq ?_
   refine g_join (fun _ : Unit => [(0, .pointer (some ⟨p, 0, none⟩)), (1, .slice a W.length c), (2, .int .i64 many), (7, .slice oa k oc), (10, .int .i64 z), (12, .slice a W.length c), (13, .int .i64 W.length), (14, .int .i64 k)]) (fun _ => [OwnSl 3 1 oa k oc (out.map encI), Rd 73 p lb n (failS 5 s0)]) (fun _ => True) ?_ ?_
   ·refine g_seq <| g_region ?_
    refine g_mv ?_
    refine g_pure (p_neqifT (by rfl) rfl rfl) rfl ?_
    refine g_mv ?_
    refine g_noA ?_
    refine g_noA ?_
    refine g_noA ?_
    refine g_noA ?_
    first | refine g_pkt ?_ | refine g_pkf ?_
    refine g_mv ?_
    refine g_noA ?_
    refine g_noA ?_
    first | refine g_pkt ?_ | refine g_pkf ?_
    refine g_mv ?_
    refine g_noA ?_
    refine g_noA ?_
    first | refine g_pkt ?_ | refine g_pkf ?_
    refine g_nil <| g_qt ?_
    refine g_ift rfl ?_
    refine g_region ?_
    refine g_mv ?_
    refine g_call (Hin := [Rd 73 p lb n s0]) (Hr := ?hr6) (R := ?rr6) rfl rfl rfl ?hin6 ?hc6 ?hk6
    case hin6 => repeat' (first | exact Cover.nil | exact Take.here | apply Cover.cons | apply Take.there)
    case hc6 => intro ρ' hρ hR; exact fail_ok p lb n s0 5
    rintro _ _ ⟨rfl, rfl⟩
    refine g_nil <| g_qn ?_
    exact g_joinedA () trivial
   rintro _ -
   refine g_qt <| g_region ?_
   refine g_mv ?_
   refine g_mv ?_
   refine g_eff (e_bs (xs := [.tmp 42]) rfl rfl rfl (by rfl) (by rfl) rfl (by rfl)) rfl (fun _ _ => ?_)
   rintro ⟨b43, rfl, rfl⟩
   refine g_eff (e_appendO (by rfl) (by rfl) rfl rfl (by first | (apply Has.own; (repeat' (first | exact Take.here | apply Take.there)); done) | exact Has.ro (by assumption)) (by rfl) (by rfl) (by repeat' (first | exact Take.here | apply Take.there)) (by omega) (by first | omega | (dsimp only; omega) | (simp <;> omega)) (by omega)) rfl (fun _ _ => ?_)
   rintro ⟨a44, c44, rfl, rfl⟩
   refine g_as ?_
   refine g_nil <| g_qb <| g_qt <| g_region ?_
   first | refine g_pure (p_addi rfl rfl (by omega)) rfl ?_ | refine g_pure (p_add rfl rfl) rfl ?_
   refine g_mv ?_
   refine g_nil <| g_qn ?_
   rw [show out.map encI ++ [Value.int IntKind.i64 z] = (out ++ [z]).map encI by rw [List.map_append]; rfl]
   rw [← hs']
   exact g_nextA (k + 1, a44, c44, out ++ [z]) ⟨hkl, by dsimp only; rw [List.length_append, hk2]; rfl, fun h => hnone hnum z h⟩ (by dsimp only; omega)
 ·have hke : k = W.length := by omega
  subst hke
  rw [List.take_length] at hk3 ⊢
  have hba := badS_at W s
  have hout : (doneS (if 0 ≤ many ∧ (W.length : Int) ≠ many then failS 5 (badS W s) else badS W s)).2 = 0 → out = numsV W := fun h => hk3 (badS_ok (hz h).1)
  generalize badS W s = s0 at hba hout ⊢
  refine g_exit <| g_qt_exit <| g_qn_exit <| g_qb_exit <| g_qt <| g_seq ?_
  refine g_join (fun _ : Unit => [(0, .pointer (some ⟨p, 0, none⟩)), (7, .slice oa W.length oc)]) (fun _ => [OwnSl 3 1 oa W.length oc (out.map encI), Rd 73 p lb n (if 0 ≤ many ∧ (W.length : Int) ≠ many then failS 5 s0 else s0)]) (fun _ => True) ?_ ?_
  ·refine g_seq <| g_region ?_
   refine g_mv ?_
   refine g_pure (p_geq rfl rfl) rfl ?_
   refine g_mv ?_
   refine g_splitd rfl rfl (fun h1 => ?_) (fun h1 => ?_)
   ·refine g_yesA ?_
    refine g_mv ?_
    refine g_yesA ?_
    refine g_pure (p_len (by rfl) rfl) rfl ?_
    refine g_yesA ?_
    refine g_mv ?_
    refine g_yesA ?_
    refine g_pure (p_neq rfl rfl) rfl ?_
    first | refine g_pkt ?_ | refine g_pkf ?_
    refine g_nil <| g_qt ?_
    refine g_ifndL rfl (fun h2 => ?_) (fun h2 => ?_)
    ·refine g_region ?_
     refine g_mv ?_
     refine g_call (Hin := [Rd 73 p lb n s0]) (Hr := ?hr7) (R := ?rr7) rfl rfl rfl ?hin7 ?hc7 ?hk7
     case hin7 => repeat' (first | exact Cover.nil | exact Take.here | apply Cover.cons | apply Take.there)
     case hc7 => intro ρ' hρ hR; exact fail_ok p lb n s0 5
     rintro _ _ ⟨rfl, rfl⟩
     refine g_nil <| g_qn ?_
     first | (rw [if_pos (show 0 ≤ many ∧ (W.length : Int) ≠ many from ⟨by omega, by omega⟩)]; exact g_joinedA () trivial) | (rw [if_neg (fun h : 0 ≤ many ∧ (W.length : Int) ≠ many => by omega)]; exact g_joinedA () trivial)
    ·refine g_skip <| g_qn ?_
     first | (rw [if_pos (show 0 ≤ many ∧ (W.length : Int) ≠ many from ⟨by omega, by omega⟩)]; exact g_joinedA () trivial) | (rw [if_neg (fun h : 0 ≤ many ∧ (W.length : Int) ≠ many => by omega)]; exact g_joinedA () trivial)
   ·refine g_noA ?_
    refine g_noA ?_
    refine g_noA ?_
    refine g_noA ?_
    first | refine g_pkt ?_ | refine g_pkf ?_
    refine g_nil <| g_qt ?_
    refine g_iff rfl ?_
    refine g_skip <| g_qn ?_
    first | (rw [if_pos (show 0 ≤ many ∧ (W.length : Int) ≠ many from ⟨by omega, by omega⟩)]; exact g_joinedA () trivial) | (rw [if_neg (fun h : 0 ≤ many ∧ (W.length : Int) ≠ many => by omega)]; exact g_joinedA () trivial)
  rintro _ -
  refine g_qt ?_
  have hat : (if 0 ≤ many ∧ (W.length : Int) ≠ many then failS 5 s0 else s0).1 = s.1 := by split <;> exact hba
  generalize (if 0 ≤ many ∧ (W.length : Int) ≠ many then failS 5 s0 else s0) = s1 at hat hout ⊢
  refine g_seq <| g_region ?_
  refine g_mv ?_
  refine g_call (Hin := [Rd 73 p lb n s1]) (Hr := ?hr8) (R := ?rr8) rfl rfl rfl ?hin8 ?hc8 ?hk8
  case hin8 => repeat' (first | exact Cover.nil | exact Take.here | apply Cover.cons | apply Take.there)
  case hc8 => intro ρ' hρ hR; exact done_ok p lb n s1 (by omega)
  rintro _ _ ⟨rfl, rfl⟩
  refine g_nil <| g_qt <| g_seq <| g_region ?_
  refine g_mv ?_
  refine g_as ?_
  refine g_nil <| g_qt <| g_ret ?_
  exact g_postA (rs := [.tmp 6]) rfl (.tmp rfl .nil) ⟨oa, oc, out, rfl, hk2, hout, rfl⟩
end Go.Proofs.YtcnfcoojmbjdlaaGreatDoor
/- Chapter 26: a line with a word and numbers; whether there is more; an instruction behind an error. Conditions: what the library's variables hold (LibA). -/
namespace Go.Z.Asm
set_option maxRecDepth 8000
set_option linter.unusedVariables false
set_option linter.unusedSimpArgs false
set_option linter.unusedSectionVars false
open Go Go.Z Go.Lib Go.Z.Txt
theorem nextS_at (ls : List (List UInt8)) (s : RS) : (nextS ls s).2.1 = s.1 := by
 unfold nextS
 dsimp only
 by_cases h1 : (ls.length : Int) - 1 ≤ s.1
 ·rw [if_pos h1]
  split
  ·rfl
  ·dsimp only; split <;> rfl
 ·rw [if_neg h1]
  split
  ·rfl
  ·dsimp only; split <;> rfl
theorem pieces_le (c : UInt8) (l : List UInt8) : (pieces c l).length ≤ l.length + 1 := by
 induction l with
 | nil => simp [pieces]
 | cons b l ih =>
  unfold pieces
  split
  ·simp; omega
  ·split
   ·simp
   ·rename_i h; rw [h] at ih; simp at ih ⊢; omega
theorem nextS_words {ls : List (List UInt8)} {s : RS} (h : ∀ l ∈ ls, l.length < 4294967281) : (nextS ls s).1.length ≤ 4294967281 ∧ ∀ w ∈ (nextS ls s).1, w.length < 4294967281 := by
 unfold nextS
 dsimp only
 generalize (if (ls.length : Int) - 1 ≤ s.1 then failS 4 s else s) = s1
 by_cases h2 : s1.2 ≠ 0
 ·rw [if_pos h2]; simp
 ·rw [if_neg h2]
  have hg : (ls.getD s.1 []).length < 4294967281 := by
   rw [List.getD_eq_getElem?_getD]
   cases e : ls[s.1]? with
   | none => simp
   | some l => exact h l (List.mem_of_getElem? e)
  have hp := pieces_le 32 (ls.getD s.1 [])
  exact ⟨by dsimp only; omega, fun w hw => Nat.lt_of_le_of_lt (pieces_mem hw).2 hg⟩
theorem tail_rsl {ρ : Nat → Obj → Prop} {wb : Nat} {w0 : List UInt8} {W : List (List UInt8)} {T : TypeId} {fz : Nat × Nat} (h : ρ wb (.cells ((w0 :: W).map strV).toArray T fz)) {a : Option Addr} (ha : 0 < W.length → a = some ⟨wb, 1, none⟩) : RSl ρ 1 a W.length (W.map strV) :=
 ⟨by simp, wb, 1, (w0 :: W).map strV, T, fz, fun h0 => ⟨ha h0, h, fun j v hj => by rw [Nat.add_comm, List.map_cons, List.getElem?_cons_succ]; exact hj⟩⟩
theorem tail_addr {wb : Nat} {w0 : List UInt8} {W : List (List UInt8)} (h : 0 < W.length) : (if (w0 :: W).length = (1 : Int).toNat then some (⟨wb, 0, none⟩ : Addr) else (some (⟨wb, 0, none⟩ : Addr)).map (·.add ((1 : Int).toNat * 1))) = some ⟨wb, 1, none⟩ := by
 rw [if_neg (by rw [List.length_cons]; show ¬ W.length + 1 = 1; omega)]; rfl
def moreS (ls : List (List UInt8)) (s : RS) : Bool := decide (s.2 = 0) && (decide ((s.1 : Int) < ls.length - 1) || decide (ls.getD s.1 [] ≠ []))
theorem numbersS_at (W : List (List UInt8)) (many : Int) (s : RS) : (numbersS W many s).1 ≤ s.1 + 1 := by
 rw [numbersS_eq]
 have h1 : (if 0 ≤ many ∧ (W.length : Int) ≠ many then failS 5 (badS W s) else badS W s).1 = s.1 := by split <;> exact badS_at W s
 generalize (if 0 ≤ many ∧ (W.length : Int) ≠ many then failS 5 (badS W s) else badS W s) = t at h1
 unfold doneS
 split
 ·dsimp only; omega
 ·omega
end Go.Z.Asm
namespace Go.Proofs.YtcnfcoojmbjdlaaGreatDoor
set_option maxRecDepth 8000
set_option linter.unusedVariables false
set_option linter.unusedSimpArgs false
set_option linter.unusedSectionVars false
open Go Go.Z Go.Z.Asm Go.RowKit Go.Z.Txt

theorem list_ok {ρ : Nat → Obj → Prop} (hk : LibA ρ) {lb : Nat} {ls : List (List UInt8)} (hL : Lns ρ lb ls) (p : Nat) (s : RS) (hs : s.1 < ls.length) (word : List UInt8) (many : Int) :
  Con Tryz.prog ρ 50 #[.pointer (some ⟨p, 0, none⟩), .string (strB word), .int .i64 many] [Rd 73 p lb ls.length s]
  (fun v H => ∃ oa oc, ∃ out : List Int, v = .slice oa out.length oc ∧ out.length = (nextS ls s).1.tail.length ∧ ((listS ls word many s).2 = 0 → out = numsV (nextS ls s).1.tail) ∧ H = [OwnSl 3 1 oa out.length oc (out.map encI), Rd 73 p lb ls.length (listS ls word many s)]) := by
 have hll := hL.len
 obtain ⟨hw1, hw2⟩ := nextS_words (s := s) hL.each
 have hat := nextS_at ls s
 have hne := nextS_ne ls s
 have hlS : listS ls word many s = numbersS (nextS ls s).1.tail many (if (nextS ls s).1.headD [] ≠ word then failS 5 (nextS ls s).2 else (nextS ls s).2) := rfl
 rw [hlS]
 refine con_intro Tryz.func50 Tryz.call50 rfl Tryz.ntmps50 rfl (L := [(0, _), (1, _), (2, _)]) rfl fun w hh => ?_
 refine g_seq <| g_region ?_
 refine g_as ?_
 refine g_nil <| g_qt <| g_seq <| g_region ?_
 refine g_mv ?_
 refine g_call (Hin := [Rd 73 p lb ls.length s]) (Hr := ?hr1) (R := ?rr1) rfl rfl rfl ?hin1 ?hc1 ?hk1
 case hin1 => repeat' (first | exact Cover.nil | exact Take.here | apply Cover.cons | apply Take.there)
 case hc1 => intro ρ' hρ hR; exact next_ok (hk.mono hρ) (hL.mono hρ) p s hs
 rintro _ _ ⟨wb, rfl, rfl⟩
 generalize nextS ls s = N at hw1 hw2 hat hne ⊢
 obtain ⟨W, s1⟩ := N
 dsimp only at hw1 hw2 hat hne ⊢
 match W, hne with
 | w0 :: W, _ =>
 rw [List.headD_cons, List.tail_cons]
 refine g_as ?_
 refine g_nil <| g_qt <| g_seq ?_
 refine g_join (fun _ : Unit => [(0, .pointer (some ⟨p, 0, none⟩)), (2, .int .i64 many), (7, .slice (some ⟨wb, 0, none⟩) (w0 :: W).length (w0 :: W).length)]) (fun _ => [Blk wb (.cells ((w0 :: W).map strV).toArray 9 (0, 0)), Rd 73 p lb ls.length (if w0 ≠ word then failS 5 s1 else s1)]) (fun _ => True) ?_ ?_
 ·refine g_seq <| g_region ?_
  refine g_mv ?_
  refine g_pure (p_indexAddr rfl rfl (by simp) (fun _ => rfl)) rfl ?_
  refine g_pure (p_load (v := .string (strB w0)) (by rfl) rfl (Has.own (by repeat' (first | exact Take.here | apply Take.there))) (by rfl)) rfl ?_
  refine g_mv ?_
  refine g_pure (p_neqs (i := strB w0) (j := strB word) (by rfl) rfl rfl) rfl ?_
  refine g_nil <| g_qt ?_
  refine g_ifnd rfl (fun h1 => ?_) (fun h1 => ?_)
  ·rw [if_pos (fun h => h1 (by rw [h]))]
   refine g_region ?_
   refine g_mv ?_
   refine g_call (Hin := [Rd 73 p lb ls.length s1]) (Hr := ?hr2) (R := ?rr2) rfl rfl rfl ?hin2 ?hc2 ?hk2
   case hin2 => repeat' (first | exact Cover.nil | exact Take.here | apply Cover.cons | apply Take.there)
   case hc2 => intro ρ' hρ hR; exact fail_ok p lb ls.length s1 5
   rintro _ _ ⟨rfl, rfl⟩
   refine g_nil <| g_qn ?_
   exact g_joinedA () trivial
  ·rw [if_neg (fun h => h (strB_inj.1 h1))]
   refine g_skip <| g_qn ?_
   exact g_joinedA () trivial
 rintro _ -
 refine g_qt ?_
 have hat2 : (if w0 ≠ word then failS 5 s1 else s1).1 = s.1 := by split <;> exact hat
 generalize (if w0 ≠ word then failS 5 s1 else s1) = s2 at hat2 ⊢
 have hlW : W.length ≤ 4294967296 := by rw [List.length_cons] at hw1; omega
 refine g_seq <| g_region ?_
 refine g_mv ?_
 refine g_mv ?_
 refine g_pure (p_slicel rfl rfl (by rw [List.length_cons]; omega)) rfl ?_
 refine g_mv ?_
 refine g_call (Hin := [Rd 73 p lb ls.length s2]) (Hr := ?hr3) (R := ?rr3) rfl rfl rfl ?hin3 ?hc3 ?hk3
 case hin3 => repeat' (first | exact Cover.nil | exact Take.here | apply Cover.cons | apply Take.there)
 case hc3 => intro ρ' hρ hR; exact numbers_ok (hk.mono hρ) p lb ls.length s2 (by omega) _ _ W (tail_rsl (w0 := w0) (Take.ro (A := Blk wb (.cells ((w0 :: W).map strV).toArray 9 (0, 0))) (by repeat' (first | exact Take.here | apply Take.there)) hR).blk (fun h => tail_addr (w0 := w0) h)) hlW (fun w hw => hw2 w (List.mem_cons_of_mem _ hw)) many
 rintro _ _ ⟨oa, oc, out, rfl, ho1, ho2, rfl⟩
 refine g_as ?_
 refine g_nil <| g_qt <| g_ret ?_
 exact g_postA (Ho := [OwnSl 3 1 oa W.length oc (out.map encI), Rd 73 p lb ls.length (numbersS W many s2)]) (rs := [.tmp 6]) rfl (.tmp rfl .nil) ⟨oa, oc, out, by rw [ho1]; rfl, ho1, ho2, by rw [ho1]⟩

theorem more_ok {ρ : Nat → Obj → Prop} {lb : Nat} {ls : List (List UInt8)} (hL : Lns ρ lb ls) (p : Nat) (s : RS) (hs : s.1 < ls.length) :
  Con Tryz.prog ρ 51 #[.pointer (some ⟨p, 0, none⟩)] [Rd 73 p lb ls.length s] (fun v H => v = .bool (moreS ls s) ∧ H = [Rd 73 p lb ls.length s]) := by
 obtain ⟨LT, lz, hlb⟩ := hL.mem
 have hll := hL.len
 obtain ⟨at', e⟩ := s
 dsimp only at hs
 have hx : (ls.map strV)[0 + (at' : Int).toNat * 1]? = some (.string (strB (ls.getD at' []))) := by rw [Int.toNat_natCast, Nat.mul_one, Nat.zero_add, List.getElem?_map, List.getD_eq_getElem?_getD, List.getElem?_eq_getElem hs]; rfl
 have hM : moreS ls (at', e) = (decide (e = 0) && (decide ((at' : Int) < ls.length - 1) || decide (ls.getD at' [] ≠ []))) := rfl
 generalize ls.getD at' [] = li at hx hM
 have hnil : strB li = ⟨#[]⟩ ↔ li = [] := strB_inj (b := [])
 unfold Rd
 dsimp only
 refine con_intro Tryz.func51 Tryz.call51 rfl Tryz.ntmps51 rfl (L := [(0, _)]) rfl fun w hh => ?_
 refine g_seq <| g_region ?_
 refine g_as ?_
 refine g_nil <| g_qt <| g_seq ?_
 refine m_begin0 (.fl 0 0 (.fl 1 0 (.fl 2 0 (.fl 3 1 (.fl 4 0 (.fl 5 0 (.fl 6 0 (.fl 7 0 (.fl 8 0 (.fl 9 1 (.fl 10 0 (.fl 11 0 (.fl 12 0 (.fl 13 1 (.fl 14 0 (.fl 15 0 (.fl 16 0 (.fl 17 0 (.fl 18 0 (.fl 19 0 (.fl 20 0 (.fl 21 1 (.fl 22 0 (.fl 23 0 (.fl 24 0 (.fl 25 1 (.fl 26 0 (.fl 27 1 (.fl 28 0 (.fl 29 0 (.fl 30 0 (.fl 31 0 .done)))))))))))))))))))))))))))))))) (by kernel_rfl) (by kernel_rfl) ?_
 refine m_float0 rfl (fun _ _ => p_move rfl) rfl ?_
 refine m_float0 rfl (fun _ _ => p_nilCheck rfl) rfl ?_
 refine m_float0 rfl (fun _ _ => p_fieldAddr rfl) rfl ?_
 refine m_float rfl (p_loadA) rfl ?_
 refine m_float0 rfl (fun _ _ => p_eql rfl rfl) rfl ?_
 refine m_float0 rfl (fun _ _ => p_move rfl) rfl ?_
 refine m_splitd 5 rfl rfl (fun h1 => ?_) (fun h1 => ?_)
 ·refine m_yes0 rfl rfl rfl (fun _ _ => p_move rfl) rfl ?_
  refine m_yes0 rfl rfl rfl (fun _ _ => p_nilCheck rfl) rfl ?_
  refine m_yes0 rfl rfl rfl (fun _ _ => p_fieldAddr rfl) rfl ?_
  refine m_yes rfl rfl rfl (p_loadA) rfl ?_
  refine m_yes0 rfl rfl rfl (fun _ _ => p_move rfl) rfl ?_
  refine m_yes0 rfl rfl rfl (fun _ _ => p_nilCheck rfl) rfl ?_
  refine m_yes0 rfl rfl rfl (fun _ _ => p_fieldAddr rfl) rfl ?_
  refine m_yes rfl rfl rfl (p_loadA) rfl ?_
  refine m_yes0 rfl rfl rfl (fun _ _ => p_len (by rfl) rfl) rfl ?_
  first | refine m_yes0 rfl rfl rfl (fun _ _ => p_subi rfl rfl (by omega)) rfl ?_ | refine m_yes0 rfl rfl rfl (fun _ _ => p_sub rfl rfl) rfl ?_
  refine m_yes0 rfl rfl rfl (fun _ _ => p_lss rfl rfl) rfl ?_
  refine m_yes0 rfl rfl rfl (fun _ _ => p_move rfl) rfl ?_
  refine m_splitd 17 rfl rfl (fun h2 => ?_) (fun h2 => ?_)
  ·refine m_no0 rfl rfl rfl rfl rfl ?_
   refine m_no0 rfl rfl rfl rfl rfl ?_
   refine m_no0 rfl rfl rfl rfl rfl ?_
   refine m_no rfl rfl rfl rfl rfl ?_
   refine m_no0 rfl rfl rfl rfl rfl ?_
   refine m_no0 rfl rfl rfl rfl rfl ?_
   refine m_no0 rfl rfl rfl rfl rfl ?_
   refine m_no rfl rfl rfl rfl rfl ?_
   refine m_no0 rfl rfl rfl rfl rfl ?_
   refine m_no rfl rfl rfl rfl rfl ?_
   refine m_no0 rfl rfl rfl rfl rfl ?_
   first | refine m_yes0 rfl rfl rfl (fun _ _ => p_pickt rfl rfl) rfl ?_ | refine m_yes0 rfl rfl rfl (fun _ _ => p_pickf rfl rfl) rfl ?_
   first | refine m_float0 rfl (fun _ _ => p_pickt rfl rfl) rfl ?_ | refine m_float0 rfl (fun _ _ => p_pickf rfl rfl) rfl ?_
   refine m_float0 rfl (fun _ _ => p_assign rfl) rfl ?_
   refine m_nil ?_
   refine g_qt <| g_ret ?_
   first | exact g_postA (rs := [.tmp 2]) rfl (.tmp rfl .nil) ⟨show Value.bool false = _ by (rw [hM, decide_eq_false (p := e = 0) (by assumption)]; rfl), rfl⟩ | exact g_postA (rs := [.tmp 2]) rfl (.tmp rfl .nil) ⟨show Value.bool true = _ by (rw [hM, decide_eq_true (p := e = 0) (by assumption), decide_eq_true (p := (at' : Int) < ls.length - 1) (by assumption)]; rfl), rfl⟩ | exact g_postA (rs := [.tmp 2]) rfl (.tmp rfl .nil) ⟨show Value.bool (!decide (strB li = ⟨#[]⟩)) = _ by (rw [hM, decide_eq_true (p := e = 0) (by assumption), decide_eq_false (p := (at' : Int) < ls.length - 1) (by assumption), Bool.true_and, Bool.false_or, decide_not]; congr 2; exact decide_eq_decide.2 hnil), rfl⟩
  ·refine m_yes0 rfl rfl rfl (fun _ _ => p_move rfl) rfl ?_
   refine m_yes0 rfl rfl rfl (fun _ _ => p_nilCheck rfl) rfl ?_
   refine m_yes0 rfl rfl rfl (fun _ _ => p_fieldAddr rfl) rfl ?_
   refine m_yes rfl rfl rfl (p_loadA) rfl ?_
   refine m_yes0 rfl rfl rfl (fun _ _ => p_move rfl) rfl ?_
   refine m_yes0 rfl rfl rfl (fun _ _ => p_nilCheck rfl) rfl ?_
   refine m_yes0 rfl rfl rfl (fun _ _ => p_fieldAddr rfl) rfl ?_
   refine m_yes rfl rfl rfl (p_loadA) rfl ?_
   refine m_yes0 rfl rfl rfl (fun _ _ => p_indexAddr rfl rfl (by omega) (fun _ => rfl)) rfl ?_
   refine m_yes rfl rfl rfl (p_load (by rfl) rfl (Has.ro hlb) hx) rfl ?_
   refine m_yes0 rfl rfl rfl (fun _ _ => p_neqs (i := strB li) (j := ⟨#[]⟩) (by rfl) rfl rfl) rfl ?_
   first | refine m_yes0 rfl rfl rfl (fun _ _ => p_pickt rfl rfl) rfl ?_ | refine m_yes0 rfl rfl rfl (fun _ _ => p_pickf rfl rfl) rfl ?_
   first | refine m_float0 rfl (fun _ _ => p_pickt rfl rfl) rfl ?_ | refine m_float0 rfl (fun _ _ => p_pickf rfl rfl) rfl ?_
   refine m_float0 rfl (fun _ _ => p_assign rfl) rfl ?_
   refine m_nil ?_
   refine g_qt <| g_ret ?_
   first | exact g_postA (rs := [.tmp 2]) rfl (.tmp rfl .nil) ⟨show Value.bool false = _ by (rw [hM, decide_eq_false (p := e = 0) (by assumption)]; rfl), rfl⟩ | exact g_postA (rs := [.tmp 2]) rfl (.tmp rfl .nil) ⟨show Value.bool true = _ by (rw [hM, decide_eq_true (p := e = 0) (by assumption), decide_eq_true (p := (at' : Int) < ls.length - 1) (by assumption)]; rfl), rfl⟩ | exact g_postA (rs := [.tmp 2]) rfl (.tmp rfl .nil) ⟨show Value.bool (!decide (strB li = ⟨#[]⟩)) = _ by (rw [hM, decide_eq_true (p := e = 0) (by assumption), decide_eq_false (p := (at' : Int) < ls.length - 1) (by assumption), Bool.true_and, Bool.false_or, decide_not]; congr 2; exact decide_eq_decide.2 hnil), rfl⟩
 ·refine m_no0 rfl rfl rfl rfl rfl ?_
  refine m_no0 rfl rfl rfl rfl rfl ?_
  refine m_no0 rfl rfl rfl rfl rfl ?_
  refine m_no rfl rfl rfl rfl rfl ?_
  refine m_no0 rfl rfl rfl rfl rfl ?_
  refine m_no0 rfl rfl rfl rfl rfl ?_
  refine m_no0 rfl rfl rfl rfl rfl ?_
  refine m_no rfl rfl rfl rfl rfl ?_
  refine m_no0 rfl rfl rfl rfl rfl ?_
  refine m_no0 rfl rfl rfl rfl rfl ?_
  refine m_no0 rfl rfl rfl rfl rfl ?_
  refine m_no0 rfl rfl rfl rfl rfl ?_
  refine m_nou0 rfl rfl rfl rfl ?_
  refine m_nou0 rfl rfl rfl rfl ?_
  refine m_nou0 rfl rfl rfl rfl ?_
  refine m_nou rfl rfl rfl rfl ?_
  refine m_nou0 rfl rfl rfl rfl ?_
  refine m_nou0 rfl rfl rfl rfl ?_
  refine m_nou0 rfl rfl rfl rfl ?_
  refine m_nou rfl rfl rfl rfl ?_
  refine m_nou0 rfl rfl rfl rfl ?_
  refine m_nou rfl rfl rfl rfl ?_
  refine m_nou0 rfl rfl rfl rfl ?_
  refine m_no0 rfl rfl rfl rfl rfl ?_
  first | refine m_float0 rfl (fun _ _ => p_pickt rfl rfl) rfl ?_ | refine m_float0 rfl (fun _ _ => p_pickf rfl rfl) rfl ?_
  refine m_float0 rfl (fun _ _ => p_assign rfl) rfl ?_
  refine m_nil ?_
  refine g_qt <| g_ret ?_
  first | exact g_postA (rs := [.tmp 2]) rfl (.tmp rfl .nil) ⟨show Value.bool false = _ by (rw [hM, decide_eq_false (p := e = 0) (by assumption)]; rfl), rfl⟩ | exact g_postA (rs := [.tmp 2]) rfl (.tmp rfl .nil) ⟨show Value.bool true = _ by (rw [hM, decide_eq_true (p := e = 0) (by assumption), decide_eq_true (p := (at' : Int) < ls.length - 1) (by assumption)]; rfl), rfl⟩ | exact g_postA (rs := [.tmp 2]) rfl (.tmp rfl .nil) ⟨show Value.bool (!decide (strB li = ⟨#[]⟩)) = _ by (rw [hM, decide_eq_true (p := e = 0) (by assumption), decide_eq_false (p := (at' : Int) < ls.length - 1) (by assumption), Bool.true_and, Bool.false_or, decide_not]; congr 2; exact decide_eq_decide.2 hnil), rfl⟩
end Go.Proofs.YtcnfcoojmbjdlaaGreatDoor
/- Chapter 26: reading behind an error: an instruction, a routine. Conditions: what the library's variables hold (LibA). -/
namespace Go.Z
set_option maxRecDepth 8000
set_option linter.unusedVariables false
set_option linter.unusedSimpArgs false
set_option linter.unusedSectionVars false
open Go
section
variable {P : Program} {M : Mx} {n : Nat} {L : Fr} {H H' : List Assn} {x y : Operand} {t ty tz : TypeId} {ps : String} {af : Array Edge} {gd : Option (Nat × Bool)} {dd : Option Tmp}
theorem p_sliceArr0 {b m e : Nat} {yt ye : Ty} [ht : TyC P t yt] (hd : yt.d = .array m e) [he : TyC P e ye] (h1 : ev L x = some (.pointer (some ⟨b, 0, none⟩))) :
  Pur P M n L H ⟨dd, .slice t x none none none, ty, ps, af, gd⟩ (.slice (some ⟨b, 0, none⟩) m m) := fun a w ha _ => by
 have e6 : (Addr.mk b 0 none).add 0 = ⟨b, 0, none⟩ := by unfold Addr.add; split <;> simp_all
 simp [execOp, Instr.sliceAt, Instr.slice, Instr.sliceBounds, Instr.sliceBound, Instr.sureAddr, asIntOf, ha.ev h1, ht.run_u, hd, he.run_size, e6]
end
end Go.Z
namespace Go.Z.Asm
set_option maxRecDepth 8000
set_option linter.unusedVariables false
set_option linter.unusedSimpArgs false
set_option linter.unusedSectionVars false
open Go Go.Z Go.Lib Go.Z.Txt
theorem ops_row : ∀ k, k < 11 → ∃ w a b c d e, sub opsC (0 + k * 6) 6 = some [.string (strB w), .int .i64 a, .int .i64 b, .int .i64 c, .int .i64 d, .int .i64 e]
 | 0, _ => ⟨[], _, _, _, _, _, rfl⟩
 | 1, _ => ⟨[108, 111, 97, 100], _, _, _, _, _, rfl⟩
 | 2, _ => ⟨[109, 111, 118, 101], _, _, _, _, _, rfl⟩
 | 3, _ => ⟨[114, 101, 97, 100], _, _, _, _, _, rfl⟩
 | 4, _ => ⟨[119, 114, 105, 116, 101], _, _, _, _, _, rfl⟩
 | 5, _ => ⟨[117, 110, 97, 114, 121], _, _, _, _, _, rfl⟩
 | 6, _ => ⟨[97, 112, 112, 108, 121], _, _, _, _, _, rfl⟩
 | 7, _ => ⟨[106, 117, 109, 112], _, _, _, _, _, rfl⟩
 | 8, _ => ⟨[122, 101, 114, 111], _, _, _, _, _, rfl⟩
 | 9, _ => ⟨[99, 97, 108, 108], _, _, _, _, _, rfl⟩
 | 10, _ => ⟨[114, 101, 115, 101, 116], _, _, _, _, _, rfl⟩
 | k + 11, h => by omega
theorem failS_err {x : Int} {s : RS} (h : s.2 ≠ 0) : failS x s = s := by
 unfold failS
 rw [if_neg h]
theorem nextS_err {ls : List (List UInt8)} {s : RS} (h : s.2 ≠ 0) : nextS ls s = ([[]], s) := by
 unfold nextS
 have h1 : (if (ls.length : Int) - 1 ≤ s.1 then failS 4 s else s) = s := by split; exact failS_err h; rfl
 rw [h1]
 dsimp only
 rw [if_pos h]
theorem nextS_zero {ls : List (List UInt8)} {s : RS} (h : (nextS ls s).2.2 = 0) : (s.1 : Int) < ls.length - 1 ∧ s.2 = 0 := by
 by_cases h0 : s.2 = 0
 ·refine ⟨?_, h0⟩
  unfold nextS at h
  dsimp only at h
  by_cases h1 : (ls.length : Int) - 1 ≤ s.1
  ·rw [if_pos h1, if_pos (failS_ne (by decide) s)] at h
   exact absurd h (failS_ne (by decide) s)
  ·omega
 ·rw [nextS_err h0] at h; exact absurd h h0
theorem numbersS_pos {W : List (List UInt8)} {many : Int} {s : RS} (h : (numbersS W many s).1 ≠ s.1) : s.2 = 0 := by
 rw [numbersS_eq] at h
 by_cases h0 : s.2 = 0
 ·exact h0
 ·have h1 : badS W s = s := by unfold badS; split; exact failS_err h0; rfl
  rw [h1] at h
  have h2 : (if 0 ≤ many ∧ (W.length : Int) ≠ many then failS 5 s else s) = s := by split; exact failS_err h0; rfl
  rw [h2] at h
  unfold doneS at h
  rw [if_neg h0] at h
  exact absurd rfl h
theorem listS_lt {ls : List (List UInt8)} {s : RS} (word : List UInt8) (many : Int) (hs : s.1 < ls.length) : (listS ls word many s).1 < ls.length := by
 have hl : listS ls word many s = numbersS (nextS ls s).1.tail many (if (nextS ls s).1.headD [] ≠ word then failS 5 (nextS ls s).2 else (nextS ls s).2) := rfl
 have hat := nextS_at ls s
 have h1 : (if (nextS ls s).1.headD [] ≠ word then failS 5 (nextS ls s).2 else (nextS ls s).2).1 = s.1 := by split <;> exact hat
 have h2 := numbersS_at (nextS ls s).1.tail many (if (nextS ls s).1.headD [] ≠ word then failS 5 (nextS ls s).2 else (nextS ls s).2)
 by_cases h3 : (listS ls word many s).1 = s.1
 ·omega
 ·rw [hl] at h3 ⊢
  have h4 := numbersS_pos (W := (nextS ls s).1.tail) (many := many) (s := if (nextS ls s).1.headD [] ≠ word then failS 5 (nextS ls s).2 else (nextS ls s).2) (by omega)
  by_cases h5 : (nextS ls s).1.headD [] ≠ word
  ·rw [if_pos h5] at h4; exact absurd h4 (failS_ne (by decide) _)
  ·rw [if_neg h5] at h4
   have := nextS_zero h4
   omega
def inB : List UInt8 := [105, 110]
def outW : List UInt8 := [111, 117, 116]
def regsW : List UInt8 := [114, 101, 103, 115]
def initW : List UInt8 := [105, 110, 105, 116]
def routW : List UInt8 := [114, 111, 117, 116, 105, 110, 101]
def enumW : List UInt8 := [101, 110, 117, 109, 115]
/-- the first line of a routine -/
def headS (ls : List (List UInt8)) (s : RS) : RS := doneS (if (nextS ls s).1.headD [] ≠ routW ∨ (nextS ls s).1.length ≠ 2 then failS 5 (nextS ls s).2 else (nextS ls s).2)
/-- the lines of a routine ahead of its code -/
def foreS (ls : List (List UInt8)) (s : RS) : RS := listS ls initW (-1) (listS ls regsW 1 (listS ls outW (-1) (listS ls inB (-1) (headS ls s))))
theorem headS_lt {ls : List (List UInt8)} {s : RS} (hs : s.1 < ls.length) : (headS ls s).1 < ls.length := by
 unfold headS
 have hat := nextS_at ls s
 by_cases h : (nextS ls s).1.headD [] ≠ routW ∨ (nextS ls s).1.length ≠ 2
 ·rw [if_pos h]
  unfold doneS
  rw [if_neg (failS_ne (by decide) _)]
  show (nextS ls s).2.1 < _
  omega
 ·rw [if_neg h]
  unfold doneS
  split
  ·rename_i h0
   have := nextS_zero h0
   dsimp only; omega
  ·omega
end Go.Z.Asm
namespace Go.Proofs.YtcnfcoojmbjdlaaGreatDoor
set_option maxRecDepth 8000
set_option linter.unusedVariables false
set_option linter.unusedSimpArgs false
set_option linter.unusedSectionVars false
open Go Go.Z Go.Z.Asm Go.RowKit Go.Z.Txt

theorem ins1_ok {ρ : Nat → Obj → Prop} {b4 wb n1 c1 : Nat} {T T2 : TypeId} {fz fz2 : Nat × Nat} {l2 : List Value} (h4 : ρ b4 (.cells [.slice (some ⟨wb, 0, none⟩) 1 c1].toArray T fz)) (hw : ρ wb (.cells [.string ⟨#[]⟩].toArray T2 fz2)) (ow : ByteArray) (a b c d e : Int) :
  Con Tryz.prog ρ 107 #[.agg #[.string ow, .int .i64 a, .int .i64 b, .int .i64 c, .int .i64 d, .int .i64 e], .pointer (some ⟨b4, 0, none⟩)] [] (fun v H => v = .bool false ∧ H = []) := by
 refine con_intro Tryz.func107 Tryz.call107 rfl Tryz.ntmps107 rfl (L := [(0, _), (1, _)]) rfl fun w hh => ?_
 refine g_seq <| g_region ?_
 refine g_eff (e_box rfl (by rfl)) rfl (fun _ _ => ?_)
 rintro ⟨b2, rfl, rfl⟩
 refine g_as ?_
 refine g_nil <| g_qt <| g_seq ?_
 refine m_begin0 (.fl 0 0 (.fl 1 1 (.fl 2 1 (.fl 3 0 (.fl 4 1 (.fl 5 0 (.fl 6 0 (.fl 7 1 (.fl 8 0 (.fl 9 1 (.fl 10 0 (.fl 11 0 (.fl 12 0 .done))))))))))))) (by kernel_rfl) (by kernel_rfl) ?_
 refine m_float0 rfl (fun _ _ => p_fieldAddr rfl) rfl ?_
 refine m_float rfl (p_loadA) rfl ?_
 refine m_float rfl (p_load (by rfl) rfl (Has.ro h4) (by rfl)) rfl ?_
 refine m_float0 rfl (fun _ _ => p_indexAddr rfl rfl (by omega) (fun _ => rfl)) rfl ?_
 refine m_float rfl (p_load (by rfl) rfl (Has.ro hw) (by rfl)) rfl ?_
 refine m_float0 rfl (fun _ _ => p_eqls (i := ow) (j := ⟨#[]⟩) (by rfl) rfl rfl) rfl ?_
 refine m_float0 rfl (fun _ _ => p_move rfl) rfl ?_
 refine m_splitd 6 rfl rfl (fun h1 => ?_) (fun h1 => ?_)
 ·refine m_yes rfl rfl rfl (p_load (by rfl) rfl (Has.ro h4) (by rfl)) rfl ?_
  refine m_yes0 rfl rfl rfl (fun _ _ => p_indexAddr rfl rfl (by omega) (fun _ => rfl)) rfl ?_
  refine m_yes rfl rfl rfl (p_load (by rfl) rfl (Has.ro hw) (by rfl)) rfl ?_
  refine m_yes0 rfl rfl rfl (fun _ _ => p_neqsF (by rfl) rfl rfl rfl) rfl ?_
  first | refine m_float0 rfl (fun _ _ => p_pickt rfl rfl) rfl ?_ | refine m_float0 rfl (fun _ _ => p_pickf rfl rfl) rfl ?_
  refine m_float0 rfl (fun _ _ => p_assign rfl) rfl ?_
  refine m_nil ?_
  refine g_qt <| g_ret ?_
  exact g_postA (rs := [.tmp 3]) rfl (.tmp rfl .nil) ⟨rfl, rfl⟩
 ·refine m_no rfl rfl rfl rfl rfl ?_
  refine m_no0 rfl rfl rfl rfl rfl ?_
  refine m_no rfl rfl rfl rfl rfl ?_
  refine m_no0 rfl rfl rfl rfl rfl ?_
  first | refine m_float0 rfl (fun _ _ => p_pickt rfl rfl) rfl ?_ | refine m_float0 rfl (fun _ _ => p_pickf rfl rfl) rfl ?_
  refine m_float0 rfl (fun _ _ => p_assign rfl) rfl ?_
  refine m_nil ?_
  refine g_qt <| g_ret ?_
  exact g_postA (rs := [.tmp 3]) rfl (.tmp rfl .nil) ⟨rfl, rfl⟩
theorem idxO_ok {ρ : Nat → Obj → Prop} (hO : OpsK ρ) {b4 wb c1 : Nat} {T T2 : TypeId} {fz fz2 : Nat × Nat} (h4 : ρ b4 (.cells [.slice (some ⟨wb, 0, none⟩) 1 c1].toArray T fz)) (hw : ρ wb (.cells [.string ⟨#[]⟩].toArray T2 fz2)) :
  Con Tryz.prog ρ 106 #[.slice (some ⟨0, 0, none⟩) 11 11, .func (.func 107) #[] #[.pointer (some ⟨b4, 0, none⟩)]] [] (fun v H => v = .int .i64 (-1) ∧ H = []) := by
 obtain ⟨OT, oz, hg⟩ := hO
 refine con_intro Tryz.func106 Tryz.call106 rfl Tryz.ntmps106 rfl (L := [(0, _), (1, _)]) rfl fun w hh => ?_
 refine g_seq <| g_region ?_
 refine g_as ?_
 refine g_nil <| g_qt <| g_seq <| g_seq <| g_region ?_
 refine g_mv ?_
 refine g_pure (p_len (by rfl) rfl) rfl ?_
 refine g_mv ?_
 refine g_nil <| g_qt <| g_block ?_
 refine g_loop (fun k : Nat => [(0, .slice (some ⟨0, 0, none⟩) 11 11), (1, .func (.func 107) #[] #[.pointer (some ⟨b4, 0, none⟩)]), (7, .int .i64 11), (8, .int .i64 k)]) (fun _ => []) (fun k => k ≤ 11) (fun k => 11 - k) 0 (Nat.zero_le _) (by (repeat (first | exact trivial | refine ⟨by rfl, ?_⟩)); done) .nil ?_
 rintro k hk1
 refine g_seq <| g_region ?_
 refine g_pure (p_lss rfl rfl) rfl ?_
 refine g_nil <| g_qt <| g_seq ?_
 refine g_ifd rfl (fun q => ?_) (fun q => ?_)
 ·obtain ⟨ow, oa, ob, oc, od, oe, hrow⟩ := ops_row k (by omega)
  refine g_skip <| g_qt <| g_seq <| g_block <| g_seq <| g_region ?_
  refine g_mv ?_
  refine g_as ?_
  refine g_nil <| g_qt <| g_seq <| g_region ?_
  refine g_mv ?_
  refine g_mv ?_
  refine g_mv ?_
  refine g_pure (p_indexAddr rfl rfl (by omega) (fun _ => rfl)) rfl ?_
  refine g_pure (p_loadN (by rfl) rfl (Has.ro hg) (by rw [Int.toNat_natCast]; exact hrow)) rfl ?_
  refine g_call (Hin := []) (Hr := ?hr1) (R := ?rr1) rfl rfl rfl ?hin1 ?hc1 ?hk1
  case hin1 => repeat' (first | exact Cover.nil | exact Take.here | apply Cover.cons | apply Take.there)
  case hc1 => intro ρ' hρ hR; exact ins1_ok (n1 := 0) (l2 := []) (hρ _ _ h4) (hρ _ _ hw) (strB ow) oa ob oc od oe
  rintro _ _ ⟨rfl, rfl⟩
  refine g_nil <| g_qt ?_
  refine g_iff rfl ?_
  refine g_skip <| g_qb <| g_qt <| g_region ?_
  first | refine g_pure (p_addi rfl rfl (by omega)) rfl ?_ | refine g_pure (p_add rfl rfl) rfl ?_
  refine g_mv ?_
  refine g_nil <| g_qn ?_
  exact g_next (k + 1) (by (repeat (first | exact trivial | refine ⟨by rfl, ?_⟩)); done) .nil (by omega) (by omega)
 ·refine g_exit <| g_qt_exit <| g_qn_exit <| g_qb_exit <| g_qt <| g_seq <| g_region ?_
  refine g_as ?_
  refine g_nil <| g_qt <| g_ret ?_
  exact g_post (rs := [.tmp 4]) rfl (.tmp rfl .nil) ⟨rfl, rfl⟩ .nil
theorem insE_ok {ρ : Nat → Obj → Prop} (hk : LibA ρ) {lb : Nat} {ls : List (List UInt8)} (hL : Lns ρ lb ls) (p : Nat) (s : RS) (hs : s.1 < ls.length) (he : s.2 ≠ 0) :
  Con Tryz.prog ρ 77 #[.pointer (some ⟨p, 0, none⟩)] [Rd 73 p lb ls.length s] (fun v H => v = .tuple #[.agg #[.int .i64 0, .int .i64 0, .int .i64 0, .int .i64 0, .int .i64 0], .bool false] ∧ H = [Rd 73 p lb ls.length s]) := by
 have hn := nextS_err (ls := ls) he
 have hnx := fun {ρ' : Nat → Obj → Prop} (hρ : ∀ b o, ρ b o → ρ' b o) => next_ok (hk.mono hρ) (hL.mono hρ) p s hs
 rw [hn] at hnx
 refine con_intro Tryz.func77 Tryz.call77 rfl Tryz.ntmps77 rfl (L := [(0, _)]) rfl fun w hh => ?_
 refine g_seq <| g_region ?_
 refine g_eff (e_alloc (by rfl)) rfl (fun _ _ => ?_)
 rintro ⟨b2, rfl, rfl⟩
 refine g_as ?_
 refine g_nil <| g_qt <| g_seq <| g_region ?_
 refine g_mv ?_
 refine g_call (Hin := [Rd 73 p lb ls.length s]) (Hr := ?hr2) (R := ?rr2) rfl rfl rfl ?hin2 ?hc2 ?hk2
 case hin2 => repeat' (first | exact Cover.nil | exact Take.here | apply Cover.cons | apply Take.there)
 case hc2 => intro ρ' hρ hR; exact hnx hρ
 rintro _ _ ⟨wb, rfl, rfl⟩
 refine g_eff (e_alloc (by rfl)) rfl (fun _ _ => ?_)
 rintro ⟨b4, rfl, rfl⟩
 first | refine g_eff0 (e_storeO rfl rfl (by rfl) (by rfl) (by rfl) (by repeat' (first | exact Take.here | apply Take.there)) (by rfl)) (fun _ _ => ?_) | refine g_eff0 (e_store1 (by rfl) rfl rfl rfl (by repeat' (first | exact Take.here | apply Take.there)) (by first | decide | (simp <;> omega) | omega)) (fun _ _ => ?_)
 rintro rfl
 refine g_nil <| g_qt <| g_seq <| g_seq <| g_region ?_
 refine g_ld ?_
 refine g_pure (p_indexAddr rfl rfl (by simp) (fun _ => rfl)) rfl ?_
 refine g_pure (p_load (v := .string ⟨#[]⟩) (by rfl) rfl (Has.own (by repeat' (first | exact Take.here | apply Take.there))) (by rfl)) rfl ?_
 refine g_pure (p_eqls (i := ⟨#[]⟩) (j := ⟨#[101, 110, 100]⟩) (by rfl) rfl rfl) rfl ?_
 refine g_nil <| g_qt ?_
 refine g_ifd rfl (fun h1 => ?_) (fun h1 => ?_)
 ·exact absurd h1 (by decide)
 ·refine g_skip <| g_qt <| g_seq <| g_region ?_
  refine g_pure (p_sliceArr0 (he := ty62) (by rfl) rfl) rfl ?_
  refine g_pure (p_makeFunc rfl rfl) rfl ?_
  refine g_call (Hin := []) (Hr := ?hr3) (R := ?rr3) rfl rfl rfl ?hin3 ?hc3 ?hk3
  case hin3 => repeat' (first | exact Cover.nil | exact Take.here | apply Cover.cons | apply Take.there)
  case hc3 => intro ρ' hρ hR; exact idxO_ok (hk.mono hρ).ops (Take.ro (A := Blk b4 (.cells [.slice (some ⟨wb, 0, none⟩) 1 1].toArray 70 (0, 0))) (by repeat' (first | exact Take.here | apply Take.there)) hR).blk (Take.ro (A := Blk wb (.cells [.string ⟨#[]⟩].toArray 9 (0, 0))) (by repeat' (first | exact Take.here | apply Take.there)) hR).blk
  rintro _ _ ⟨rfl, rfl⟩
  refine g_as ?_
  refine g_nil <| g_qt <| g_seq <| g_seq <| g_region ?_
  refine g_mv ?_
  refine g_pure (p_lss rfl rfl) rfl ?_
  refine g_nil <| g_qt ?_
  refine g_ift rfl ?_
  refine g_seq <| g_region ?_
  refine g_mv ?_
  refine g_call (Hin := [Rd 73 p lb ls.length s]) (Hr := ?hr4) (R := ?rr4) rfl rfl rfl ?hin4 ?hc4 ?hk4
  case hin4 => repeat' (first | exact Cover.nil | exact Take.here | apply Cover.cons | apply Take.there)
  case hc4 => intro ρ' hρ hR; exact fail_ok p lb ls.length s 5
  rintro _ _ ⟨rfl, rfl⟩
  refine g_nil <| g_qt <| g_seq <| g_region ?_
  refine g_pure (p_build (by rfl) rfl (by rfl)) rfl ?_
  first | refine g_eff0 (e_storeO rfl rfl (by rfl) (by rfl) (by rfl) (by repeat' (first | exact Take.here | apply Take.there)) (by rfl)) (fun _ _ => ?_) | refine g_eff0 (e_storeN rfl rfl (by rfl) (by rfl) (by rfl) (by repeat' (first | exact Take.here | apply Take.there)) (by simp)) (fun _ _ => ?_)
  rintro rfl
  refine g_as ?_
  refine g_nil <| g_qt <| g_ret <| g_qt_ret ?_
  rw [failS_err he]
  exact g_postA (rs := [.cell 2 32, .tmp 3]) rfl (Res.cellN (by rfl) rfl (Has.own (by repeat' (first | exact Take.here | apply Take.there))) (by rfl) (.tmp rfl .nil)) ⟨rfl, rfl⟩
end Go.Proofs.YtcnfcoojmbjdlaaGreatDoor
