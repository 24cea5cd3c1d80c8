/- Chapter 4: shortest distances. Conditions: none. -/
import Derived.Test.YtmefecnjliadaaaN7
import Derived.Test.YtmefecnjliadaaaNb
import Derived.Test.YtmefecnjliadaaaZq
namespace Go.Z.Gr
set_option maxRecDepth 8000
set_option linter.unusedVariables false
set_option linter.unusedSimpArgs false
set_option linter.unusedSectionVars false
open Go Go.Z
theorem getI_cell {d : List Int} {u : Int} (h0 : 0 ≤ u) (h : u < d.length) : (d.map encI)[0 + u.toNat * 1]? = some (.int .i64 (getI d u)) := by
  obtain ⟨m, rfl⟩ : ∃ m : Nat, u = m := ⟨u.toNat, by omega⟩
  have hm : m < d.length := by omega
  rw [getI_nat hm, Int.toNat_natCast, Nat.zero_add, Nat.mul_one]
  exact mapI d hm
theorem setI_cell {d : List Int} {u x : Int} : (d.map encI).set (0 + u.toNat * 1) (.int .i64 x) = (d.set u.toNat x).map encI := by
  rw [Nat.zero_add, Nat.mul_one, List.map_set]; rfl
/-- how many are not reached -/
def cneg (d : List Int) : Nat := d.countP fun x => decide (x < 0)
theorem cneg_set {d : List Int} {u : Int} (h1 : 0 ≤ u ∧ u < d.length) (hd : getI d u < 0) {x : Int} (hx : 0 ≤ x) : cneg (d.set u.toNat x) + 1 = cneg d := by
  have h := leftB_add (q := []) h1 hd hx
  unfold leftB at h
  unfold cneg
  simp at h
  omega
/-- no distance is greater than what was reached -/
def dLe (n : Nat) (d : List Int) : Prop := ∀ x ∈ d, x + cneg d + 1 ≤ n
theorem dLe.set {n : Nat} {d : List Int} {u v : Int} (h : dLe n d) (h1 : 0 ≤ u ∧ u < d.length) (hv : 0 ≤ v ∧ v < d.length) (hd : getI d u < 0) (hx : 0 ≤ getI d v) : dLe n (d.set u.toNat (getI d v + 1)) := by
  have hc := cneg_set h1 hd (x := getI d v + 1) (by omega)
  intro x hm
  rcases List.mem_or_eq_of_mem_set hm with e | e
  · have := h x e; omega
  · have hvm : getI d v ∈ d := by
      obtain ⟨m, rfl⟩ : ∃ m : Nat, v = m := ⟨v.toNat, by omega⟩
      rw [getI_nat (by omega)]; exact List.getElem_mem _
    have := h _ hvm; omega
theorem dLe.start {n : Nat} {t : Nat} (ht : t < n) : dLe n ((List.replicate n (-1)).set t 0) := by
  have hc := cneg_set (d := List.replicate n (-1)) (u := (t : Int)) (x := 0) (by simp; omega) (by rw [getI_nat (by simp; exact ht)]; simp) (by decide)
  rw [Int.toNat_natCast] at hc
  have hn : cneg (List.replicate n (-1)) ≤ n := by
    have := List.countP_le_length (p := fun x : Int => decide (x < 0)) (l := List.replicate n (-1))
    rw [List.length_replicate] at this
    exact this
  intro x hm
  rcases List.mem_or_eq_of_mem_set hm with e | e
  · rw [List.eq_of_mem_replicate e]; omega
  · omega
theorem getI_le {n : Nat} {d : List Int} (h : dLe n d) {v : Int} (hv : 0 ≤ v ∧ v < d.length) : getI d v + 1 ≤ n := by
  have hvm : getI d v ∈ d := by
    obtain ⟨m, rfl⟩ : ∃ m : Nat, v = m := ⟨v.toNat, by omega⟩
    rw [getI_nat (by omega)]; exact List.getElem_mem _
  have := h _ hvm; omega
def negC (n k : Nat) : List Value := List.replicate k (.int .i64 (-1)) ++ List.replicate (n - k) (.int .i64 0)
theorem negC_zero (n : Nat) : negC n 0 = List.replicate n (.int .i64 0) := rfl
theorem negC_len {n k : Nat} (h : k ≤ n) : (negC n k).length = n := by simp [negC]; omega
theorem negC_all (n : Nat) : negC n n = (List.replicate n (-1)).map encI := by simp [negC, encI]
theorem negC_set {n k : Nat} (h : k < n) : (negC n k).set (0 + (k : Int).toNat * 1) (.int .i64 (-1)) = negC n (k + 1) := by
  unfold negC
  rw [Int.toNat_natCast, Nat.zero_add, Nat.mul_one, List.set_append_right _ _ (by simp), List.length_replicate, Nat.sub_self, show n - k = (n - (k + 1)) + 1 by omega, List.replicate_succ, List.set_cons_zero, List.replicate_succ', List.append_assoc]
  rfl
end Go.Z.Gr
namespace Go.Proofs.Ytmefecnjliadaaa
set_option maxRecDepth 8000
set_option linter.unusedVariables false
set_option linter.unusedSimpArgs false
set_option linter.unusedSectionVars false
open Go Go.Z Go.Z.Gr
theorem distances_ok {ρ : Nat → Obj → Prop} (n : Nat) (hn : n ≤ 4096) (E : Ed) (ho : EdOk n E) (a : Option Addr) (c : Nat) (f : Nat → List Int) (hN : NbR ρ a n f) (hf : ∀ v u, v < n → (u ∈ f v ↔ (u, (v : Int)) ∈ E)) (hfl : ∀ v, v < n → (f v).length ≤ 1000000) (t : Nat) (ht : t < n) :
    Con Try.prog ρ 43 #[.slice a n c, .int .i64 t] [] (fun r H => ∃ a' c' d, r = .slice a' n c' ∧ H = [OwnSl 3 1 a' n c' (d.map Z.encI)] ∧ DistOk E n t d ∧ dLe n d) := by
  refine con_intro Try.func43 Try.call43 rfl Try.ntmps43 rfl (L := [(0, _), (1, _)]) rfl fun w hh => ?_
  refine g_seq ?_
  refine g_region ?_
  refine g_pure (p_assign rfl) rfl ?_
  refine g_nil ?_
  refine g_qt ?_
  refine g_seq ?_
  refine g_region ?_
  refine g_pure (p_move rfl) rfl ?_
  refine g_pure (p_len (by rfl) rfl) rfl ?_
  refine g_eff (e_make (by rfl) (by rfl) rfl rfl (by omega) (by first | omega | (dsimp only; omega)) (by omega)) rfl (fun _ _ => ?_)
  rintro ⟨b13, rfl, rfl⟩
  refine g_pure (p_assign rfl) rfl ?_
  refine g_nil ?_
  refine g_qt ?_
  refine g_seq ?_
  refine g_seq ?_
  refine g_region ?_
  refine g_pure (p_move rfl) rfl ?_
  refine g_pure (p_len (by rfl) rfl) rfl ?_
  refine g_pure (p_move rfl) rfl ?_
  refine g_nil ?_
  refine g_qt ?_
  refine g_block ?_
  rw [Int.toNat_natCast]
  refine g_weak (B := Blk b13 (.cells (negC n 0).toArray 3 (0, 0))) .here (blk_eq (negC_zero n).symm) ?_
  refine g_loop (fun k : Nat => [(0, .slice a n c), (1, .int .i64 t), (5, .slice (some ⟨b13, 0, none⟩) n n), (14, .slice (some ⟨b13, 0, none⟩) n n), (15, .int .i64 n), (16, .int .i64 k)])
    (fun k => [Blk b13 (.cells (negC n k).toArray 3 (0, 0))]) (fun k => k ≤ n) (fun k => n - k) 0 (Nat.zero_le _) (by (repeat (first | exact trivial | refine ⟨by rfl, ?_⟩)); done) (by repeat' (first | exact Cover.nil | exact Take.here | apply Cover.cons | apply Take.there)) fun k hk => ?_
  refine g_seq ?_
  refine g_region ?_
  refine g_pure (p_lss rfl rfl) rfl ?_
  refine g_nil ?_
  refine g_qt ?_
  refine g_seq ?_
  refine g_ifd rfl (fun q => ?_) (fun q => ?_)
  · have hk' : k < n := by omega
    have hnl := negC_len hk
    refine g_skip ?_
    refine g_qt ?_
    refine g_seq ?_
    refine g_block ?_
    refine g_seq ?_
    refine g_region ?_
    refine g_pure (p_move rfl) rfl ?_
    refine g_pure (p_assign rfl) rfl ?_
    refine g_nil ?_
    refine g_qt ?_
    refine g_region ?_
    refine g_pure (p_move rfl) rfl ?_
    refine g_pure (p_move rfl) rfl ?_
    refine g_pure (p_indexAddr rfl rfl (by omega) (fun _ => rfl)) rfl ?_
    refine g_eff0 (e_store1 (by rfl) rfl rfl rfl (by repeat' (first | exact Take.here | apply Take.there)) (by rw [hnl, Int.toNat_natCast]; show 0 + k * 1 < n; omega)) (fun _ _ => ?_)
    rintro rfl
    refine g_nil ?_
    refine g_qb ?_
    refine g_qt ?_
    refine g_region ?_
    first | refine g_pure (p_addi rfl rfl (by omega)) rfl ?_ | refine g_pure (p_add rfl rfl) rfl ?_
    refine g_pure (p_move rfl) rfl ?_
    refine g_nil ?_
    refine g_qn ?_
    refine g_weak .here (blk_eq (negC_set hk')) ?_
    exact g_next (k + 1) (by (repeat (first | exact trivial | refine ⟨by rfl, ?_⟩)); done) (by repeat' (first | exact Cover.nil | exact Take.here | apply Cover.cons | apply Take.there)) (by omega) (by omega)
  · have hke : k = n := by omega
    rw [hke]
    have hset : (negC n n).set (0 + (t : Int).toNat * 1) (.int .i64 0) = ((List.replicate n (-1)).set t 0).map Z.encI := by
      rw [negC_all, setI_cell, Int.toNat_natCast]
    have hnl := negC_len (Nat.le_refl n)
    refine g_exit ?_
    refine g_qt_exit ?_
    refine g_qn_exit ?_
    refine g_qb_exit ?_
    refine g_qt ?_
    refine g_seq ?_
    refine g_region ?_
    refine g_pure (p_move rfl) rfl ?_
    refine g_pure (p_move rfl) rfl ?_
    refine g_pure (p_indexAddr rfl rfl (by omega) (fun _ => rfl)) rfl ?_
    refine g_eff0 (e_store1 (by rfl) rfl rfl rfl (by repeat' (first | exact Take.here | apply Take.there)) (by rw [hnl, Int.toNat_natCast]; show 0 + t * 1 < n; omega)) (fun _ _ => ?_)
    rintro rfl
    refine g_nil ?_
    refine g_qt ?_
    refine g_seq ?_
    refine g_region ?_
    refine g_pure (p_move rfl) rfl ?_
    refine g_eff (e_bs (xs := [.tmp 26]) rfl rfl rfl (by rfl) (by rfl) rfl (by rfl)) rfl (fun _ _ => ?_)
    rintro ⟨b27, rfl, rfl⟩
    refine g_pure (p_assign rfl) rfl ?_
    refine g_nil ?_
    refine g_qt ?_
    refine g_seq ?_
    refine g_block ?_
    refine g_weak (.there .here) (blk_eq hset) ?_
    refine g_weak (B := OwnQ 3 (some ⟨b27, 0, none⟩) 1 1 [.int .i64 t]) (.there .here) (q_of_blk (by simp)) ?_
    have hB0 := BI.start (E := E) (n := n) (t := (t : Int)) ⟨by omega, by omega⟩ ho
    rw [Int.toNat_natCast] at hB0
    have hlb0 : leftB ((List.replicate n (-1)).set t 0) [(t : Int)] ≤ 2 * n + 1 := by
      have := List.countP_le_length (p := fun x : Int => decide (x < 0)) (l := (List.replicate n (-1)).set t 0)
      rw [List.length_set, List.length_replicate] at this
      unfold leftB
      rw [List.length_singleton]
      omega
    refine g_loop (fun s : List Int × List Int × Option Addr × Nat => [(0, .slice a n c), (1, .int .i64 t), (5, .slice (some ⟨b13, 0, none⟩) n n), (7, .slice s.2.2.1 s.2.1.length s.2.2.2)])
      (fun s => [Blk b13 (.cells (s.1.map Z.encI).toArray 3 (0, 0)), OwnQ 3 s.2.2.1 s.2.1.length s.2.2.2 (s.2.1.map Z.encI)]) (fun s => BI E n t s.1 s.2.1 ∧ dLe n s.1 ∧ leftB s.1 s.2.1 ≤ 2 * n + 1) (fun s => leftB s.1 s.2.1) ((List.replicate n (-1)).set t 0, [(t : Int)], some ⟨b27, 0, none⟩, 1) ⟨hB0, dLe.start ht, hlb0⟩ (by (repeat (first | exact trivial | refine ⟨by rfl, ?_⟩)); done) (by repeat' (first | exact Cover.nil | exact Take.here | apply Cover.cons | apply Take.there)) ?_
    rintro ⟨d, q, qa, qc⟩ ⟨hB, hL, hlq⟩
    dsimp only at hB hL hlq ⊢
    have hdl := hB.len
    refine g_seq ?_
    refine g_seq ?_
    refine g_region ?_
    refine g_pure (p_move rfl) rfl ?_
    refine g_pure (p_len (by rfl) rfl) rfl ?_
    refine g_pure (p_gtr rfl rfl) rfl ?_
    refine g_nil ?_
    refine g_qt ?_
    refine g_ifd rfl (fun p => ?_) (fun p => ?_)
    · obtain ⟨v, r, rfl⟩ : ∃ v r, q = v :: r := by
        cases q with
        | nil => exact absurd p (by decide)
        | cons v r => exact ⟨v, r, rfl⟩
      obtain ⟨⟨v1, v2⟩, v3⟩ := hB.qin v List.mem_cons_self
      obtain ⟨vn, rfl⟩ : ∃ m : Nat, v = m := ⟨v.toNat, by omega⟩
      have hvn : vn < n := by omega
      have hM0 := MI.begin hB
      obtain ⟨bb, oo, cc, TT, zz, ai, ci, r1, r2, r3, r4⟩ := hN.at hvn
      have hfv := hfl vn hvn
      refine g_openQ (.there .here) ?_
      rintro g off cur rfl q1 q2 q3 q4 q5
      have hq0 : cur[off + (0 : Int).toNat * 1]? = some (.int .i64 (vn : Int)) := q_at q5 rfl
      have hlen1 : ((vn : Int) :: r).length = r.length + 1 := rfl
      refine g_skip ?_
      refine g_qt ?_
      refine g_block ?_
      refine g_seq ?_
      refine g_region ?_
      refine g_pure (p_move rfl) rfl ?_
      refine g_pure (p_indexAddr rfl rfl (by omega) (fun _ => rfl)) rfl ?_
      refine g_pure (p_load (by rfl) rfl (Has.own (by repeat' (first | exact Take.here | apply Take.there))) hq0) rfl ?_
      refine g_pure (p_assign rfl) rfl ?_
      refine g_nil ?_
      refine g_qt ?_
      refine g_seq ?_
      refine g_region ?_
      refine g_pure (p_move rfl) rfl ?_
      refine g_pure (p_tailQ rfl rfl rfl (by omega)) rfl ?_
      refine g_pure (p_assign rfl) rfl ?_
      refine g_nil ?_
      refine g_qt ?_
      refine g_seq ?_
      refine g_region ?_
      refine g_pure (p_move rfl) rfl ?_
      refine g_pure (p_move rfl) rfl ?_
      refine g_pure (p_indexAddr rfl rfl (by omega) (fun _ => r1)) rfl ?_
      refine g_pure (p_load (by rfl) rfl (Has.ro r2) r3) rfl ?_
      refine g_pure (p_len (by rfl) rfl) rfl ?_
      refine g_pure (p_move rfl) rfl ?_
      refine g_nil ?_
      refine g_qt ?_
      refine g_block ?_
      refine g_tailQ (x := .int .i64 (vn : Int)) (xs := r.map Z.encI) (by repeat' (first | exact Take.here | apply Take.there)) (by simp) q2 q3 q4 q5 ?_
      rw [show ((vn : Int) :: r).length - 1 = r.length by rw [hlen1]; rfl]
      generalize (if qc = 1 then some (⟨g, off, none⟩ : Addr) else some ⟨g, off + 1, none⟩) = qa1
      generalize qc - 1 = qc1
      refine g_loop (fun s : Nat × List Int × List Int × Option Addr × Nat => [(0, .slice a n c), (1, .int .i64 t), (5, .slice (some ⟨b13, 0, none⟩) n n), (8, .int .i64 vn), (7, .slice s.2.2.2.1 s.2.2.1.length s.2.2.2.2), (39, .slice ai (f vn).length ci), (40, .int .i64 (f vn).length), (41, .int .i64 s.1)])
        (fun s => [Blk b13 (.cells (s.2.1.map Z.encI).toArray 3 (0, 0)), OwnQ 3 s.2.2.2.1 s.2.2.1.length s.2.2.2.2 (s.2.2.1.map Z.encI)]) (fun s => s.1 ≤ (f vn).length ∧ MI E n t vn ((f vn).take s.1) s.2.1 s.2.2.1 ∧ dLe n s.2.1 ∧ leftB s.2.1 s.2.2.1 + 1 ≤ leftB d ((vn : Int) :: r)) (fun s => (f vn).length - s.1) (0, d, r, qa1, qc1) ⟨Nat.zero_le _, hM0, hL, by show leftB d r + 1 ≤ leftB d ((vn : Int) :: r); unfold leftB; rw [hlen1]; omega⟩ (by (repeat (first | exact trivial | refine ⟨by rfl, ?_⟩)); done) (by repeat' (first | exact Cover.nil | exact Take.here | apply Cover.cons | apply Take.there)) ?_
      rintro ⟨j, d1, q', qa, qc⟩ ⟨hj, hM, hL1, hlb⟩
      dsimp only at hj hM hL1 hlb ⊢
      have hdl1 := hM.len
      refine g_seq ?_
      refine g_region ?_
      refine g_pure (p_lss rfl rfl) rfl ?_
      refine g_nil ?_
      refine g_qt ?_
      refine g_seq ?_
      refine g_ifd rfl (fun y => ?_) (fun y => ?_)
      · have hj' : j < (f vn).length := by omega
        obtain ⟨bl, ol, cl, Tl, zl, l1, l2, l3⟩ := rsl_at r4 (by omega)
        have l3 := l3 j hj'
        have htk := take_snoc hj'
        have hmem : ((f vn)[j], (vn : Int)) ∈ E := (hf vn _ hvn).1 (List.getElem_mem hj')
        obtain ⟨⟨u1, u2⟩, -⟩ := ho _ hmem
        dsimp only at u1 u2
        generalize hu : (f vn)[j] = u at *
        have hcu := getI_cell (d := d1) u1 (by omega)
        have hcv := getI_cell (d := d1) (u := (vn : Int)) (by omega) (by omega)
        have hset := setI_cell (d := d1) (u := u) (x := getI d1 vn + 1)
        have hgl := getI_le hL1 (v := (vn : Int)) ⟨by omega, by omega⟩
        have hvd := hM.vd
        have hql : q'.length ≤ leftB d1 q' := by unfold leftB; omega
        refine g_skip ?_
        refine g_qt ?_
        refine g_seq ?_
        refine g_block ?_
        refine g_seq ?_
        refine g_region ?_
        refine g_pure (p_indexAddr rfl rfl (by omega) (fun _ => l1)) rfl ?_
        refine g_pure (p_load (by rfl) rfl (Has.ro l2) l3) rfl ?_
        refine g_pure (p_assign rfl) rfl ?_
        refine g_nil ?_
        refine g_qt ?_
        refine g_seq ?_
        refine g_region ?_
        refine g_pure (p_move rfl) rfl ?_
        refine g_pure (p_move rfl) rfl ?_
        refine g_pure (p_gtr rfl rfl) rfl ?_
        refine g_pure (p_move rfl) rfl ?_
        refine g_splitd rfl rfl (fun h1 => ?_) (fun h1 => ?_)
        · refine g_yes rfl rfl ?_
          refine g_pure (p_move rfl) rfl ?_
          refine g_yes rfl rfl ?_
          refine g_pure (p_move rfl) rfl ?_
          refine g_yes rfl rfl ?_
          refine g_pure (p_indexAddr rfl rfl (by omega) (fun _ => rfl)) rfl ?_
          refine g_yes rfl rfl ?_
          refine g_pure (p_load (by rfl) rfl (Has.own (by repeat' (first | exact Take.here | apply Take.there))) hcu) rfl ?_
          refine g_yes rfl rfl ?_
          refine g_pure (p_lss rfl rfl) rfl ?_
          first | refine g_pure (p_pickt rfl rfl) rfl ?_ | refine g_pure (p_pickf rfl rfl) rfl ?_
          refine g_nil ?_
          refine g_qt ?_
          refine g_ifd rfl (fun h2 => ?_) (fun h2 => ?_)
          · refine g_seq ?_
            refine g_region ?_
            refine g_pure (p_move rfl) rfl ?_
            refine g_pure (p_move rfl) rfl ?_
            refine g_pure (p_move rfl) rfl ?_
            refine g_pure (p_move rfl) rfl ?_
            refine g_pure (p_indexAddr rfl rfl (by omega) (fun _ => rfl)) rfl ?_
            refine g_pure (p_load (by rfl) rfl (Has.own (by repeat' (first | exact Take.here | apply Take.there))) hcv) rfl ?_
            first | refine g_pure (p_addi rfl rfl (by omega)) rfl ?_ | refine g_pure (p_add rfl rfl) rfl ?_
            refine g_pure (p_indexAddr rfl rfl (by omega) (fun _ => rfl)) rfl ?_
            refine g_eff0 (e_store1 (by rfl) rfl rfl rfl (by repeat' (first | exact Take.here | apply Take.there)) (by rw [List.length_map, hdl1]; show 0 + u.toNat * 1 < n; omega)) (fun _ _ => ?_)
            rintro rfl
            refine g_nil ?_
            refine g_qt ?_
            refine g_weak .here (blk_eq hset) ?_
            refine g_region ?_
            refine g_pure (p_move rfl) rfl ?_
            refine g_pure (p_move rfl) rfl ?_
            refine g_eff (e_bs (xs := [.tmp 64]) rfl rfl rfl (by rfl) (by rfl) rfl (by rfl)) rfl (fun _ _ => ?_)
            rintro ⟨b65, rfl, rfl⟩
            refine g_eff (e_appendQ (by rfl) rfl rfl rfl (Has.own (by repeat' (first | exact Take.here | apply Take.there))) rfl (by rfl) (by repeat' (first | exact Take.here | apply Take.there)) (by show (_ + 1) * 8 ≤ _; omega) (by omega)) rfl (fun _ _ => ?_)
            rintro ⟨a66, c66, rfl, rfl⟩
            refine g_pure (p_assign rfl) rfl ?_
            refine g_nil ?_
            refine g_qb ?_
            refine g_qt ?_
            refine g_region ?_
            first | refine g_pure (p_addi rfl rfl (by omega)) rfl ?_ | refine g_pure (p_add rfl rfl) rfl ?_
            refine g_pure (p_move rfl) rfl ?_
            refine g_nil ?_
            refine g_qn ?_
            rw [show q'.map Z.encI ++ [Value.int IntKind.i64 u] = (q' ++ [u]).map Z.encI by rw [List.map_append]; rfl, show q'.length + 1 = (q' ++ [u]).length by rw [List.length_append]; rfl]
            have hla := leftB_add (q := q') (x := getI d1 vn + 1) ⟨u1, by omega⟩ h2 (by omega)
            exact g_next (j + 1, d1.set u.toNat (getI d1 vn + 1), q' ++ [u], a66, c66) (by (repeat (first | exact trivial | refine ⟨by rfl, ?_⟩)); done) (by repeat' (first | exact Cover.nil | exact Take.here | apply Cover.cons | apply Take.there)) ⟨by dsimp only; omega, by dsimp only; rw [htk]; exact hM.add h1 h2 hmem, hL1.set ⟨u1, by omega⟩ ⟨by omega, by omega⟩ h2 hvd, by dsimp only; omega⟩ (by dsimp only; omega)
          · refine g_skip ?_
            refine g_qb ?_
            refine g_qt ?_
            refine g_region ?_
            first | refine g_pure (p_addi rfl rfl (by omega)) rfl ?_ | refine g_pure (p_add rfl rfl) rfl ?_
            refine g_pure (p_move rfl) rfl ?_
            refine g_nil ?_
            refine g_qn ?_
            exact g_next (j + 1, d1, q', qa, qc) (by (repeat (first | exact trivial | refine ⟨by rfl, ?_⟩)); done) (by repeat' (first | exact Cover.nil | exact Take.here | apply Cover.cons | apply Take.there)) ⟨by dsimp only; omega, by dsimp only; rw [htk]; exact hM.skip (fun h => h2 h.2), hL1, hlb⟩ (by dsimp only; omega)
        · refine g_no rfl rfl rfl rfl ?_
          refine g_no rfl rfl rfl rfl ?_
          refine g_no rfl rfl rfl rfl ?_
          refine g_no rfl rfl rfl rfl ?_
          refine g_no rfl rfl rfl rfl ?_
          first | refine g_pure (p_pickt rfl rfl) rfl ?_ | refine g_pure (p_pickf rfl rfl) rfl ?_
          refine g_nil ?_
          refine g_qt ?_
          refine g_iff rfl ?_
          refine g_skip ?_
          refine g_qb ?_
          refine g_qt ?_
          refine g_region ?_
          first | refine g_pure (p_addi rfl rfl (by omega)) rfl ?_ | refine g_pure (p_add rfl rfl) rfl ?_
          refine g_pure (p_move rfl) rfl ?_
          refine g_nil ?_
          refine g_qn ?_
          exact g_next (j + 1, d1, q', qa, qc) (by (repeat (first | exact trivial | refine ⟨by rfl, ?_⟩)); done) (by repeat' (first | exact Cover.nil | exact Take.here | apply Cover.cons | apply Take.there)) ⟨by dsimp only; omega, by dsimp only; rw [htk]; exact hM.skip (fun h => h1 h.1), hL1, hlb⟩ (by dsimp only; omega)
      · have hje : j = (f vn).length := by omega
        rw [hje, List.take_of_length_le (Nat.le_refl _)] at hM
        refine g_exit ?_
        refine g_qt_exit ?_
        refine g_qn_exit ?_
        refine g_qb_exit ?_
        refine g_qb ?_
        refine g_qn ?_
        exact g_next (d1, q', qa, qc) (by (repeat (first | exact trivial | refine ⟨by rfl, ?_⟩)); done) (by repeat' (first | exact Cover.nil | exact Take.here | apply Cover.cons | apply Take.there)) ⟨hM.over fun u hu => (hf vn u hvn).2 hu, hL1, by dsimp only; omega⟩ (by dsimp only; omega)
    · have hqe : q = [] := List.eq_nil_of_length_eq_zero (by omega)
      subst hqe
      refine g_exit ?_
      refine g_qt_exit ?_
      refine g_qn_exit ?_
      refine g_qb_exit ?_
      refine g_qt ?_
      refine g_seq ?_
      refine g_region ?_
      refine g_pure (p_move rfl) rfl ?_
      refine g_pure (p_assign rfl) rfl ?_
      refine g_nil ?_
      refine g_qt ?_
      refine g_ret ?_
      refine g_fold (k := n) (cap := n) (size := 1) (xs := d.map Z.encI) .here (Nat.le_refl _) (by omega) (by simp [hdl]) (by rw [Nat.mul_one, List.take_of_length_le (by simp [hdl])]) ?_
      exact g_post (rs := [.tmp 4]) rfl (.tmp rfl .nil) ⟨_, _, d, rfl, rfl, hB.finish, hL⟩ (by repeat' (first | exact Cover.nil | exact Take.here | apply Cover.cons | apply Take.there))
end Go.Proofs.Ytmefecnjliadaaa
