/- Chapter 4: the least topological order. Conditions: none. -/
import Derived.Test.YtmefecnjliadaaaN6
import Derived.Test.YtmefecnjliadaaaNd
namespace Go.Z.Gr
set_option maxRecDepth 8000
set_option linter.unusedVariables false
set_option linter.unusedSimpArgs false
set_option linter.unusedSectionVars false
open Go Go.Z
/-- rows that nobody writes -/
def NbR (ρ : Nat → Obj → Prop) (a : Option Addr) (n : Nat) (f : Nat → List Int) : Prop := RSl2 ρ a (rowsN n f)
theorem NbR.mono {ρ ρ' : Nat → Obj → Prop} {a : Option Addr} {n : Nat} {f : Nat → List Int} (h : NbR ρ a n f) (s : ∀ b o, ρ b o → ρ' b o) : NbR ρ' a n f := RSl2.mono h s
theorem NbR.at {ρ : Nat → Obj → Prop} {a : Option Addr} {n : Nat} {f : Nat → List Int} (h : NbR ρ a n f) {v : Nat} (hv : v < n) :
    ∃ b off cs T fz ai ci, a = some ⟨b, off, none⟩ ∧ ρ b (.cells (cs : List Value).toArray T fz) ∧ cs[off + (v : Int).toNat * 1]? = some (.slice ai (f v).length ci) ∧ RSl ρ 1 ai (f v).length ((f v).map encI) := by
  obtain ⟨b, off, cs, T, fz, h1, h2, h3⟩ := RSl2.at h (by rw [rowsN_len]; omega)
  obtain ⟨ai, ci, h4, h5⟩ := h3 v (by rw [rowsN_len]; exact hv)
  rw [rowsN_at, List.length_map] at h4 h5
  exact ⟨b, off, cs, T, fz, ai, ci, h1, h2, by rw [Int.toNat_natCast, Nat.mul_one]; exact h4, h5⟩
theorem rsl_at {ρ : Nat → Obj → Prop} {a : Option Addr} {l : List Int} (h : RSl ρ 1 a l.length (l.map encI)) (h0 : 0 < l.length) :
    ∃ b off cs T fz, a = some ⟨b, off, none⟩ ∧ ρ b (.cells (cs : List Value).toArray T fz) ∧ ∀ j (hj : j < l.length), cs[off + (j : Int).toNat * 1]? = some (.int .i64 l[j]) := by
  obtain ⟨_, b, off, cs, T, fz, h3⟩ := h
  obtain ⟨r1, r2, r3⟩ := h3 h0
  exact ⟨b, off, cs, T, fz, r1, r2, fun j hj => by rw [Int.toNat_natCast, Nat.mul_one]; exact r3 j _ (mapI l hj)⟩
def cellsG (n : Nat) (g : Nat → Nat) : List Value := (List.range n).map fun u => .int .i64 (g u : Nat)
theorem cellsG_len (n : Nat) (g : Nat → Nat) : (cellsG n g).length = n := by simp [cellsG]
theorem cellsG_at {n : Nat} {g : Nat → Nat} {u : Nat} (h : u < n) : (cellsG n g)[u]? = some (.int .i64 (g u : Nat)) := by
  unfold cellsG; rw [List.getElem?_map, List.getElem?_range h]; rfl
theorem cellsG_set {n : Nat} {g g' : Nat → Nat} {u : Nat} {x : Int} (hx : x = (g' u : Nat)) (h : ∀ i, i < n → i ≠ u → g' i = g i) : (cellsG n g).set u (.int .i64 x) = cellsG n g' := by
  subst hx
  refine List.ext_getElem? fun i => ?_
  rw [List.getElem?_set]
  by_cases e : u = i
  · subst e
    rw [if_pos rfl, cellsG_len]
    by_cases hi : u < n
    · rw [if_pos hi, cellsG_at hi]
    · rw [if_neg hi, List.getElem?_eq_none (by rw [cellsG_len]; omega)]
  · rw [if_neg e]
    by_cases hi : i < n
    · rw [cellsG_at hi, cellsG_at hi, h i hi (fun x => e x.symm)]
    · rw [List.getElem?_eq_none (by rw [cellsG_len]; omega), List.getElem?_eq_none (by rw [cellsG_len]; omega)]
theorem cellsG_eq {n : Nat} {g g' : Nat → Nat} (h : ∀ i, i < n → g i = g' i) : cellsG n g = cellsG n g' := by
  unfold cellsG
  exact List.map_congr_left fun i hi => by rw [h i (List.mem_range.1 hi)]
theorem cellsG_zero (n : Nat) : cellsG n (fun _ => 0) = List.replicate n (.int .i64 0) := by
  refine List.ext_getElem? fun i => ?_
  by_cases hi : i < n
  · rw [cellsG_at hi, List.getElem?_replicate, if_pos hi]; rfl
  · rw [List.getElem?_eq_none (by rw [cellsG_len]; omega), List.getElem?_eq_none (by rw [List.length_replicate]; omega)]
/-- edges into u from the first k vertices -/
def indg (E : Ed) (k u : Nat) : Nat := (List.range k).countP fun v : Nat => decide (((v : Int), (u : Int)) ∈ E)
theorem indg_le (E : Ed) (k u : Nat) : indg E k u ≤ k := by unfold indg; have := List.countP_le_length (p := fun v : Nat => decide (((v : Int), (u : Int)) ∈ E)) (l := List.range k); simpa using this
theorem indg_step (E : Ed) (k u : Nat) : indg E (k + 1) u = indg E k u + (nbP E k).count (u : Int) := by
  unfold indg
  rw [List.range_succ, List.countP_append, count_sorted (nbP_sorted E k)]
  congr 1
  rw [List.countP_singleton]
  by_cases h : ((k : Int), (u : Int)) ∈ E
  · rw [if_pos (decide_eq_true h), if_pos (nbP_mem.2 h)]
  · rw [if_neg (by simp [h]), if_neg (fun e => h (nbP_mem.1 e))]
theorem indg_all (E : Ed) (n u : Nat) : indg E n u = pend E n [] u := by
  unfold indg pend
  congr 1
  funext v
  exact decide_eq_decide.2 (by simp)
theorem nbP_len (E : Ed) (v : Int) : (nbP E v).length ≤ E.length := by
  unfold nbP
  have := Lib.compact_length_le ((tosP E v).mergeSort leI)
  rw [List.length_mergeSort] at this
  exact Nat.le_trans this (tosP_len E v)
theorem nb_in {n : Nat} {E : Ed} (ho : EdOk n E) {v : Int} {j : Nat} (hj : j < (nbP E v).length) : 0 ≤ (nbP E v)[j] ∧ (nbP E v)[j] < n := (ho _ (nbP_mem.1 (List.getElem_mem hj))).2
def orderA (n : Int) (E : Ed) : List Int × Int := if validP n E [] then (if (orderP E n.toNat).length < n.toNat then ([], 13) else (orderP E n.toNat, 0)) else ([], 2)
theorem valid_edok {n : Nat} {E : Ed} {ms : List Int} (h : validP n E ms = true) : n ≤ 4096 ∧ EdOk n E := by
  unfold validP at h
  rw [Bool.and_eq_true, Bool.and_eq_true] at h
  obtain ⟨⟨h1, h2⟩, h3⟩ := h
  have h1 := of_decide_eq_true h1
  refine ⟨by omega, fun e he => ?_⟩
  have := List.all_eq_true.1 h2 e he
  unfold inV at this
  rw [Bool.and_eq_true] at this
  exact ⟨of_decide_eq_true this.1, of_decide_eq_true this.2⟩
theorem blk_eq {b : Nat} {l l' : List Value} {T : TypeId} {fz : Nat × Nat} (h : l = l') : ∀ k, Blk b (.cells l.toArray T fz) k → Blk b (.cells l'.toArray T fz) k := by subst h; exact fun _ h => h
theorem nb_count {E : Ed} {v : Int} {j : Nat} (hj : j < (nbP E v).length) : ((nbP E v).take j).count (nbP E v)[j] = 0 := by
  have h1 := count_take hj (nbP E v)[j]
  rw [if_pos rfl] at h1
  have h2 := count_sorted (nbP_sorted E v) (nbP E v)[j]
  rw [if_pos (List.getElem_mem hj)] at h2
  have h3 := List.Sublist.count_le (l₁ := (nbP E v).take (j + 1)) (l₂ := nbP E v) (nbP E v)[j] (List.take_sublist _ _)
  omega
theorem indg_le2 (E : Ed) (k j u : Nat) : indg E k u + ((nbP E k).take j).count (u : Int) ≤ k + E.length := by
  have h1 := indg_le E k u
  have h2 := List.count_le_length (a := (u : Int)) (l := (nbP E k).take j)
  have h3 := nbP_len E k
  rw [List.length_take] at h2
  omega
theorem ready_snoc {g : Nat → Nat} {v : Nat} : (((List.range (v + 1)).filter fun u => decide (g u = 0)).map fun u : Nat => (u : Int)) = (((List.range v).filter fun u => decide (g u = 0)).map fun u : Nat => (u : Int)) ++ if g v = 0 then [(v : Int)] else [] := by
  rw [List.range_succ, List.filter_append, List.map_append]
  congr 1
  by_cases h : g v = 0
  · simp [h]
  · simp [h]
end Go.Z.Gr
namespace Go.Proofs.Ytmefecnjliadaaa
set_option maxRecDepth 8000
set_option linter.unusedVariables false
set_option linter.unusedSimpArgs false
set_option linter.unusedSectionVars false
open Go Go.Z Go.Z.Gr
theorem rsl_nil {ρ : Nat → Obj → Prop} : RSl ρ 1 none ([] : List Int).length (([] : List Int).map Z.encI) := ⟨rfl, 0, 0, [], 0, (0, 0), fun h => absurd h (by decide)⟩
theorem order_ok {ρ : Nat → Obj → Prop} (n : Int) (a : Option Addr) (c : Nat) (E : Ed) (hE : EdR ρ a E) (hlE : E.length ≤ 1000000) :
    Con Try.prog ρ 10 #[.int .i64 n, .slice a E.length c] [] (fun r H => ∃ a' c', r = .tuple #[.slice a' (orderA n E).1.length c', .int .i64 (orderA n E).2] ∧ H = [OwnSl 3 1 a' (orderA n E).1.length c' ((orderA n E).1.map Z.encI)]) := by
  refine con_intro Try.func10 Try.call10 rfl Try.ntmps10 rfl (L := [(0, _), (1, _)]) rfl fun w hh => ?_
  refine g_seq ?_
  refine g_region ?_
  refine g_pure (p_assign rfl) rfl ?_
  refine g_pure (p_assign rfl) rfl ?_
  refine g_nil ?_
  refine g_qt ?_
  refine g_seq ?_
  refine g_seq ?_
  refine g_region ?_
  refine g_pure (p_move rfl) rfl ?_
  refine g_pure (p_move rfl) rfl ?_
  refine g_call (Hin := []) (Hr := ?hr1) (R := ?rr1) rfl rfl rfl ?hin1 ?hc1 ?hk1
  case hin1 => repeat' (first | exact Cover.nil | exact Take.here | apply Cover.cons | apply Take.there)
  case hc1 => intro ρ' hρ hR; exact valid_ok n a c E (hE.mono hρ) (by omega) none 0 [] rsl_nil (by decide)
  rintro _ _ ⟨rfl, rfl⟩
  refine g_pure (p_not rfl) rfl ?_
  refine g_nil ?_
  refine g_qt ?_
  cases hv : validP n E [] with
  | false =>
    refine g_ift rfl ?_
    refine g_seq ?_
    refine g_region ?_
    refine g_pure (p_assign rfl) rfl ?_
    refine g_pure (p_assign rfl) rfl ?_
    refine g_nil ?_
    refine g_qt ?_
    refine g_ret ?_
    refine g_qt_ret ?_
    have e : orderA n E = ([], 2) := by unfold orderA; rw [hv]; rfl
    rw [e]
    refine g_ownnil (e := 3) (size := 1) ?_
    exact g_post (rs := [.tmp 4, .tmp 5]) rfl (.tmp rfl (.tmp rfl .nil)) ⟨none, 0, rfl, rfl⟩ (by repeat' (first | exact Cover.nil | exact Take.here | apply Cover.cons | apply Take.there))
  | true =>
    have hn0 : 0 ≤ n ∧ n ≤ 4096 := by
      have := hv
      unfold validP at this
      rw [Bool.and_eq_true, Bool.and_eq_true] at this
      exact of_decide_eq_true this.1.1
    obtain ⟨m, rfl⟩ : ∃ m : Nat, n = m := ⟨n.toNat, by omega⟩
    obtain ⟨hm, ho⟩ := valid_edok hv
    refine g_iff rfl ?_
    refine g_skip ?_
    refine g_qt ?_
    refine g_seq ?_
    refine g_region ?_
    refine g_pure (p_move rfl) rfl ?_
    refine g_pure (p_move rfl) rfl ?_
    refine g_call (Hin := []) (Hr := ?hr2) (R := ?rr2) rfl rfl rfl ?hin2 ?hc2 ?hk2
    case hin2 => repeat' (first | exact Cover.nil | exact Take.here | apply Cover.cons | apply Take.there)
    case hc2 => intro ρ' hρ hR; exact neigh_ok m a c E (hE.mono hρ) hlE hm ho
    rintro _ _ ⟨na, nc, rfl, rfl⟩
    refine g_pure (p_assign rfl) rfl ?_
    refine g_nil ?_
    refine g_qt ?_
    refine g_seq ?_
    refine g_region ?_
    refine g_pure (p_move rfl) rfl ?_
    refine g_eff (e_make (by rfl) (by rfl) rfl rfl (by omega) (by first | omega | (dsimp only; omega)) (by omega)) rfl (fun _ _ => ?_)
    rintro ⟨b27, rfl, rfl⟩
    refine g_pure (p_assign rfl) rfl ?_
    refine g_nil ?_
    refine g_qt ?_
    refine g_seq ?_
    refine g_seq ?_
    refine g_region ?_
    refine g_pure (p_move rfl) rfl ?_
    refine g_pure (p_len (by rfl) rfl) rfl ?_
    refine g_pure (p_move rfl) rfl ?_
    refine g_nil ?_
    refine g_qt ?_
    refine g_block ?_
    refine g_freeze (A := Own2 _ _ na nc _) (by repeat' (first | exact Take.here | apply Take.there)) ?_
    intro ρ1 hρ1 hNo
    have hN : NbR ρ1 na m (fun v => nbP E v) := Own2.ro hNo
    clear hNo
    rw [Int.toNat_natCast]
    refine g_weak (B := Blk b27 (.cells (cellsG m (fun u => indg E 0 u)).toArray 3 (0, 0))) .here (blk_eq (cellsG_zero m).symm) ?_
    refine g_loop (fun k : Nat => [(0, .int .i64 m), (6, .slice na m nc), (7, .slice (some ⟨b27, 0, none⟩) m m), (28, .slice na m nc), (29, .int .i64 m), (30, .int .i64 k)])
      (fun k => [Blk b27 (.cells (cellsG m (fun u => indg E k u)).toArray 3 (0, 0))]) (fun k => k ≤ m) (fun k => m - k) 0 (Nat.zero_le _) (by (repeat (first | exact trivial | refine ⟨by rfl, ?_⟩)); done) (by repeat' (first | exact Cover.nil | exact Take.here | apply Cover.cons | apply Take.there)) fun k hk => ?_
    refine g_seq ?_
    refine g_region ?_
    refine g_pure (p_lss rfl rfl) rfl ?_
    refine g_nil ?_
    refine g_qt ?_
    refine g_seq ?_
    refine g_ifd rfl (fun q => ?_) (fun q => ?_)
    · have hk' : k < m := by omega
      obtain ⟨bb, oo, cc, TT, zz, ai, ci, r1, r2, r3, r4⟩ := hN.at hk'
      have hll := nbP_len E k
      refine g_skip ?_
      refine g_qt ?_
      refine g_seq ?_
      refine g_block ?_
      refine g_seq ?_
      refine g_region ?_
      refine g_pure (p_indexAddr rfl rfl (by omega) (fun _ => r1)) rfl ?_
      refine g_pure (p_load (by rfl) rfl (Has.ro r2) r3) rfl ?_
      refine g_pure (p_assign rfl) rfl ?_
      refine g_nil ?_
      refine g_qt ?_
      refine g_seq ?_
      refine g_region ?_
      refine g_pure (p_move rfl) rfl ?_
      refine g_pure (p_len (by rfl) rfl) rfl ?_
      refine g_pure (p_move rfl) rfl ?_
      refine g_nil ?_
      refine g_qt ?_
      refine g_block ?_
      refine g_weak (B := Blk b27 (.cells (cellsG m (fun u => indg E k u + (((nbP E k).take 0).count (u : Int)))).toArray 3 (0, 0))) .here (blk_eq (cellsG_eq fun i _ => by simp)) ?_
      refine g_loop (fun j : Nat => [(0, .int .i64 m), (6, .slice na m nc), (7, .slice (some ⟨b27, 0, none⟩) m m), (28, .slice na m nc), (29, .int .i64 m), (30, .int .i64 k), (34, .slice ai (nbP E k).length ci), (35, .int .i64 (nbP E k).length), (36, .int .i64 j)])
        (fun j => [Blk b27 (.cells (cellsG m (fun u => indg E k u + (((nbP E k).take j).count (u : Int)))).toArray 3 (0, 0))]) (fun j => j ≤ (nbP E k).length) (fun j => (nbP E k).length - j) 0 (Nat.zero_le _) (by (repeat (first | exact trivial | refine ⟨by rfl, ?_⟩)); done) (by repeat' (first | exact Cover.nil | exact Take.here | apply Cover.cons | apply Take.there)) fun j hj => ?_
      refine g_seq ?_
      refine g_region ?_
      refine g_pure (p_lss rfl rfl) rfl ?_
      refine g_nil ?_
      refine g_qt ?_
      refine g_seq ?_
      refine g_ifd rfl (fun p => ?_) (fun p => ?_)
      · have hj' : j < (nbP E k).length := by omega
        obtain ⟨bl, ol, cl, Tl, zl, l1, l2, l3⟩ := rsl_at r4 (by omega)
        have l3 := l3 j hj'
        have hin := nb_in ho hj'
        have hct := count_take hj'
        generalize hw : (nbP E k)[j] = w at *
        obtain ⟨u, rfl⟩ : ∃ u : Nat, w = u := ⟨w.toNat, by omega⟩
        have hu : u < m := by omega
        have hle := indg_le2 E k j u
        have hcell : (cellsG m (fun u => indg E k u + (((nbP E k).take j).count (u : Int))))[0 + (u : Int).toNat * 1]? = some (.int .i64 ((indg E k u + (((nbP E k).take j).count (u : Int)) : Nat) : Int)) := by
          rw [Int.toNat_natCast, Nat.zero_add, Nat.mul_one]; exact cellsG_at hu
        have hset : (cellsG m (fun u => indg E k u + (((nbP E k).take j).count (u : Int)))).set (0 + (u : Int).toNat * 1) (.int .i64 (((indg E k u + (((nbP E k).take j).count (u : Int)) : Nat) : Int) + 1)) = cellsG m (fun u => indg E k u + (((nbP E k).take (j + 1)).count (u : Int))) := by
          rw [Int.toNat_natCast, Nat.zero_add, Nat.mul_one]
          exact cellsG_set (by rw [hct, if_pos rfl]; omega) fun i _ hi => by rw [hct, if_neg (by omega)]; rfl
        refine g_skip ?_
        refine g_qt ?_
        refine g_seq ?_
        refine g_block ?_
        refine g_seq ?_
        refine g_region ?_
        refine g_pure (p_indexAddr rfl rfl (by omega) (fun _ => l1)) rfl ?_
        refine g_pure (p_load (by rfl) rfl (Has.ro l2) l3) rfl ?_
        refine g_pure (p_assign rfl) rfl ?_
        refine g_nil ?_
        refine g_qt ?_
        refine g_region ?_
        refine g_pure (p_move rfl) rfl ?_
        refine g_pure (p_move rfl) rfl ?_
        refine g_pure (p_indexAddr rfl rfl (by omega) (fun _ => rfl)) rfl ?_
        refine g_pure (p_load (by rfl) rfl (Has.own (by repeat' (first | exact Take.here | apply Take.there))) hcell) rfl ?_
        first | refine g_pure (p_addi rfl rfl (by omega)) rfl ?_ | refine g_pure (p_add rfl rfl) rfl ?_
        refine g_pure (p_indexAddr rfl rfl (by omega) (fun _ => rfl)) rfl ?_
        refine g_eff0 (e_store1 (by rfl) rfl rfl rfl (by repeat' (first | exact Take.here | apply Take.there)) (by rw [cellsG_len, Int.toNat_natCast]; show 0 + u * 1 < m; omega)) (fun _ _ => ?_)
        rintro rfl
        refine g_nil ?_
        refine g_qb ?_
        refine g_qt ?_
        refine g_region ?_
        first | refine g_pure (p_addi rfl rfl (by omega)) rfl ?_ | refine g_pure (p_add rfl rfl) rfl ?_
        refine g_pure (p_move rfl) rfl ?_
        refine g_nil ?_
        refine g_qn ?_
        refine g_weak .here (blk_eq hset) ?_
        exact g_next (j + 1) (by (repeat (first | exact trivial | refine ⟨by rfl, ?_⟩)); done) (by repeat' (first | exact Cover.nil | exact Take.here | apply Cover.cons | apply Take.there)) (by omega) (by omega)
      · have hje : j = (nbP E k).length := by omega
        refine g_weak (B := Blk b27 (.cells (cellsG m (fun u => indg E (k + 1) u)).toArray 3 (0, 0))) .here (blk_eq (cellsG_eq fun i _ => by rw [hje, List.take_length, ← indg_step])) ?_
        refine g_exit ?_
        refine g_qt_exit ?_
        refine g_qn_exit ?_
        refine g_qb_exit ?_
        refine g_qb ?_
        refine g_qt ?_
        refine g_region ?_
        first | refine g_pure (p_addi rfl rfl (by omega)) rfl ?_ | refine g_pure (p_add rfl rfl) rfl ?_
        refine g_pure (p_move rfl) rfl ?_
        refine g_nil ?_
        refine g_qn ?_
        exact g_next (k + 1) (by (repeat (first | exact trivial | refine ⟨by rfl, ?_⟩)); done) (by repeat' (first | exact Cover.nil | exact Take.here | apply Cover.cons | apply Take.there)) (by omega) (by omega)
    · have hke : k = m := by omega
      refine g_weak (B := Blk b27 (.cells (cellsG m (fun u => pend E m [] u)).toArray 3 (0, 0))) .here (blk_eq (cellsG_eq fun i _ => by rw [hke]; exact indg_all E m i)) ?_
      refine g_exit ?_
      refine g_qt_exit ?_
      refine g_qn_exit ?_
      refine g_qb_exit ?_
      refine g_qt ?_
      refine g_seq ?_
      refine g_region ?_
      refine g_eff (e_bs (xs := []) rfl rfl rfl (by rfl) (by rfl) rfl (by rfl)) rfl (fun _ _ => ?_)
      rintro ⟨b48, rfl, rfl⟩
      refine g_eff (e_box rfl (by rfl)) rfl (fun _ _ => ?_)
      rintro ⟨b49, rfl, rfl⟩
      refine g_pure (p_assign rfl) rfl ?_
      refine g_nil ?_
      refine g_qt ?_
      refine g_seq ?_
      refine g_seq ?_
      refine g_region ?_
      refine g_pure (p_move rfl) rfl ?_
      refine g_pure (p_len (by rfl) rfl) rfl ?_
      refine g_pure (p_move rfl) rfl ?_
      refine g_nil ?_
      refine g_qt ?_
      refine g_block ?_
      refine g_fold (k := 0) (cap := 0) (size := 1) (g := b48) (cur := []) (xs := []) (.there .here) (Nat.le_refl _) (by decide) rfl rfl ?_
      refine g_close (K := HpK b49 []) ⟨some ⟨b48, 0, none⟩, 0, rfl⟩ (by repeat' (first | exact Cover.nil | exact Take.here | apply Cover.cons | apply Take.there)) ?_
      refine g_loop (fun s : Nat × List Int => [(0, .int .i64 m), (6, .slice na m nc), (7, .slice (some ⟨b27, 0, none⟩) m m), (12, .pointer (some ⟨b49, 0, none⟩)), (50, .slice (some ⟨b27, 0, none⟩) m m), (51, .int .i64 m), (52, .int .i64 s.1)])
        (fun s => [Blk b27 (.cells (cellsG m (fun u => pend E m [] u)).toArray 3 (0, 0)), HpA b49 s.2]) (fun s => s.1 ≤ m ∧ isHeap s.2 s.2.length ∧ s.2.Perm (((List.range s.1).filter fun u : Nat => decide (pend E m [] (u : Int) = 0)).map fun u : Nat => (u : Int))) (fun s => m - s.1) (0, []) ⟨Nat.zero_le _, fun k h1 h2 => absurd h2 (Nat.not_lt_zero k), .refl _⟩ (by (repeat (first | exact trivial | refine ⟨by rfl, ?_⟩)); done) (by repeat' (first | exact Cover.nil | exact Take.here | apply Cover.cons | apply Take.there)) ?_
      rintro ⟨v, h⟩ ⟨hv1, hv2, hv3⟩
      dsimp only at hv1 hv2 hv3 ⊢
      have hlh : h.length ≤ v := by
        have := hv3.length_eq
        rw [List.length_map] at this
        have h2 := List.length_filter_le (fun u : Nat => decide (pend E m [] (u : Int) = 0)) (List.range v)
        rw [List.length_range] at h2
        omega
      refine g_seq ?_
      refine g_region ?_
      refine g_pure (p_lss rfl rfl) rfl ?_
      refine g_nil ?_
      refine g_qt ?_
      refine g_seq ?_
      refine g_ifd rfl (fun p => ?_) (fun p => ?_)
      · have hv' : v < m := by omega
        have hcell : (cellsG m (fun u => pend E m [] u))[0 + (v : Int).toNat * 1]? = some (.int .i64 ((pend E m [] v : Nat) : Int)) := by
          rw [Int.toNat_natCast, Nat.zero_add, Nat.mul_one]; exact cellsG_at hv'
        have hsn := ready_snoc (g := fun u => pend E m [] u) (v := v)
        refine g_skip ?_
        refine g_qt ?_
        refine g_seq ?_
        refine g_block ?_
        refine g_seq ?_
        refine g_region ?_
        refine g_pure (p_move rfl) rfl ?_
        refine g_pure (p_indexAddr rfl rfl (by omega) (fun _ => rfl)) rfl ?_
        refine g_pure (p_load (by rfl) rfl (Has.own (by repeat' (first | exact Take.here | apply Take.there))) hcell) rfl ?_
        refine g_pure (p_assign rfl) rfl ?_
        refine g_pure (p_assign rfl) rfl ?_
        refine g_nil ?_
        refine g_qt ?_
        refine g_seq ?_
        refine g_region ?_
        refine g_pure (p_move rfl) rfl ?_
        refine g_pure (p_eql rfl rfl) rfl ?_
        refine g_nil ?_
        refine g_qt ?_
        refine g_ifd rfl (fun r => ?_) (fun r => ?_)
        · refine g_region ?_
          refine g_pure (p_move rfl) rfl ?_
          refine g_pure (p_mkI rfl rfl) rfl ?_
          refine g_pure (p_move rfl) rfl ?_
          refine g_pure (p_mkI rfl rfl) rfl ?_
          refine g_call (Hin := [HpA b49 h]) (Hr := ?hr3) (R := ?rr3) rfl rfl rfl ?hin3 ?hc3 ?hk3
          case hin3 => repeat' (first | exact Cover.nil | exact Take.here | apply Cover.cons | apply Take.there)
          case hc3 => intro ρ' hρ hR; exact pushH_ok b49 h v hv2 (by omega)
          rintro _ _ ⟨rfl, h', rfl, hp1, hp2⟩
          refine g_nil ?_
          refine g_qb ?_
          refine g_qt ?_
          refine g_region ?_
          first | refine g_pure (p_addi rfl rfl (by omega)) rfl ?_ | refine g_pure (p_add rfl rfl) rfl ?_
          refine g_pure (p_move rfl) rfl ?_
          refine g_nil ?_
          refine g_qn ?_
          exact g_next (v + 1, h') (by (repeat (first | exact trivial | refine ⟨by rfl, ?_⟩)); done) (by repeat' (first | exact Cover.nil | exact Take.here | apply Cover.cons | apply Take.there)) ⟨by dsimp only; omega, hp2, by dsimp only; rw [hsn, if_pos (by omega)]; exact hp1.trans (hv3.append_right _)⟩ (by dsimp only; omega)
        · refine g_skip ?_
          refine g_qb ?_
          refine g_qt ?_
          refine g_region ?_
          first | refine g_pure (p_addi rfl rfl (by omega)) rfl ?_ | refine g_pure (p_add rfl rfl) rfl ?_
          refine g_pure (p_move rfl) rfl ?_
          refine g_nil ?_
          refine g_qn ?_
          exact g_next (v + 1, h) (by (repeat (first | exact trivial | refine ⟨by rfl, ?_⟩)); done) (by repeat' (first | exact Cover.nil | exact Take.here | apply Cover.cons | apply Take.there)) ⟨by dsimp only; omega, hv2, by dsimp only; rw [hsn, if_neg (by omega), List.append_nil]; exact hv3⟩ (by dsimp only; omega)
      · have hve : v = m := by omega
        rw [hve] at hv3
        have hHI : HI m [] (fun u => pend E m [] u) h := (HI.first m (fun u => pend E m [] u)).perm hv3
        clear hv1 hv3 hlh hve
        refine g_exit ?_
        refine g_qt_exit ?_
        refine g_qn_exit ?_
        refine g_qb_exit ?_
        refine g_qt ?_
        refine g_seq ?_
        refine g_region ?_
        refine g_pure (p_assign rfl) rfl ?_
        refine g_nil ?_
        refine g_qt ?_
        refine g_seq ?_
        refine g_block ?_
        refine g_ownnil (e := 3) (size := 1) ?_
        refine g_loop (fun s : List Int × List Int × Option Addr × Nat => [(0, .int .i64 m), (6, .slice na m nc), (7, .slice (some ⟨b27, 0, none⟩) m m), (12, .pointer (some ⟨b49, 0, none⟩)), (15, .slice s.2.2.1 s.1.length s.2.2.2)])
          (fun s => [Blk b27 (.cells (cellsG m (fun u => pend E m s.1 u)).toArray 3 (0, 0)), HpA b49 s.2.1, OwnSl 3 1 s.2.2.1 s.1.length s.2.2.2 (s.1.map Z.encI)]) (fun s => OI E m s.1 ∧ HI m s.1 (fun u => pend E m s.1 u) s.2.1 ∧ isHeap s.2.1 s.2.1.length) (fun s => m - s.1.length) ([], h, none, 0) ⟨OI.start E m, hHI, hv2⟩ (by (repeat (first | exact trivial | refine ⟨by rfl, ?_⟩)); done) (by repeat' (first | exact Cover.nil | exact Take.here | apply Cover.cons | apply Take.there)) ?_
        rintro ⟨out, h, oa, oc⟩ ⟨hO, hH, hh2⟩
        dsimp only at hO hH hh2 ⊢
        have hOu := hO.un
        have hHl := hH.len
        refine g_open (.there .here) ?_
        rintro _ ⟨ha, hc, rfl⟩
        refine g_seq ?_
        refine g_seq ?_
        refine g_region ?_
        refine g_pure (p_move rfl) rfl ?_
        refine g_pure (p_nilCheck rfl) rfl ?_
        refine g_pure (p_load (by rfl) rfl (by first | (apply Has.own; (repeat' (first | exact Take.here | apply Take.there)); done) | exact Has.ro (by assumption)) (by first | rfl | assumption)) rfl ?_
        refine g_call (Hin := []) (Hr := ?hr4) (R := ?rr4) rfl rfl rfl ?hin4 ?hc4 ?hk4
        case hin4 => repeat' (first | exact Cover.nil | exact Take.here | apply Cover.cons | apply Take.there)
        case hc4 => intro ρ' hρ hR; exact hlen_ok ha hc h.length
        rintro _ _ ⟨rfl, rfl⟩
        refine g_pure (p_gtr rfl rfl) rfl ?_
        refine g_nil ?_
        refine g_qt ?_
        refine g_close (K := HpK b49 h) ⟨ha, hc, rfl⟩ (by repeat' (first | exact Cover.nil | exact Take.here | apply Cover.cons | apply Take.there)) ?_
        refine g_ifd rfl (fun p => ?_) (fun p => ?_)
        · have h0 : 0 < h.length := by omega
          obtain ⟨v, hv1, hv2⟩ := hH.min hh2 h0
          obtain ⟨hvm, hvr, -⟩ := least_some.1 hv2
          obtain ⟨hvo, -⟩ := ready_iff.1 hvr
          have hlt := hO.lt hvm hvo
          have hO' := hO.step hv2
          obtain ⟨bb, oo, cc, TT, zz, ai, ci, r1, r2, r3, r4⟩ := hN.at hvm
          have hll := nbP_len E v
          refine g_skip ?_
          refine g_qt ?_
          refine g_block ?_
          refine g_seq ?_
          refine g_region ?_
          refine g_pure (p_move rfl) rfl ?_
          refine g_pure (p_mkI rfl rfl) rfl ?_
          refine g_call (Hin := [HpA b49 h]) (Hr := ?hr5) (R := ?rr5) rfl rfl rfl ?hin5 ?hc5 ?hk5
          case hin5 => repeat' (first | exact Cover.nil | exact Take.here | apply Cover.cons | apply Take.there)
          case hc5 => intro ρ' hρ hR; exact popH_ok b49 h h0 hh2 (by omega)
          rintro _ _ ⟨rfl, h', rfl, hp1, hp2⟩
          rw [hv1] at hp1 ⊢
          have hH' := hH.pop hp1
          refine g_eff (Pur.eff (p_assertI rfl rfl)) rfl (fun _ _ => ?_)
          rintro ⟨rfl, rfl⟩
          refine g_pure (p_assign rfl) rfl ?_
          refine g_nil ?_
          refine g_qt ?_
          refine g_seq ?_
          refine g_region ?_
          refine g_pure (p_move rfl) rfl ?_
          refine g_pure (p_move rfl) rfl ?_
          refine g_eff (e_bs (xs := [.tmp 75]) rfl rfl rfl (by rfl) (by rfl) rfl (by rfl)) rfl (fun _ _ => ?_)
          rintro ⟨b76, rfl, rfl⟩
          refine g_eff (e_appendO (by rfl) (by rfl) rfl rfl (by first | (apply Has.own; (repeat' (first | exact Take.here | apply Take.there)); done) | exact Has.ro (by assumption)) (by rfl) (by rfl) (by repeat' (first | exact Take.here | apply Take.there)) (by omega) (by first | omega | (dsimp only; omega) | (simp <;> omega)) (by omega)) rfl (fun _ _ => ?_)
          rintro ⟨a77, c77, rfl, rfl⟩
          refine g_pure (p_assign rfl) rfl ?_
          refine g_nil ?_
          refine g_qt ?_
          refine g_seq ?_
          refine g_region ?_
          refine g_pure (p_move rfl) rfl ?_
          refine g_pure (p_move rfl) rfl ?_
          refine g_pure (p_indexAddr rfl rfl (by omega) (fun _ => r1)) rfl ?_
          refine g_pure (p_load (by rfl) rfl (Has.ro r2) r3) rfl ?_
          refine g_pure (p_len (by rfl) rfl) rfl ?_
          refine g_pure (p_move rfl) rfl ?_
          refine g_nil ?_
          refine g_qt ?_
          refine g_block ?_
          rw [show out.map Z.encI ++ [Value.int IntKind.i64 (v : Int)] = (out ++ [(v : Int)]).map Z.encI by rw [List.map_append]; rfl, show out.length + 1 = (out ++ [(v : Int)]).length by rw [List.length_append]; rfl]
          generalize hout : out ++ [(v : Int)] = out' at *
          have hPs := fun u : Nat => pend_step (E := E) hvm hvo (u : Int)
          rw [hout] at hPs
          have hl' : h'.length ≤ m := hH'.len
          refine g_loop (fun s : Nat × (Nat → Nat) × List Int => [(0, .int .i64 m), (6, .slice na m nc), (7, .slice (some ⟨b27, 0, none⟩) m m), (12, .pointer (some ⟨b49, 0, none⟩)), (15, .slice a77 out'.length c77), (81, .slice ai (nbP E v).length ci), (82, .int .i64 (nbP E v).length), (83, .int .i64 s.1)])
            (fun s => [Blk b27 (.cells (cellsG m s.2.1).toArray 3 (0, 0)), HpA b49 s.2.2, OwnSl 3 1 a77 out'.length c77 (out'.map Z.encI)]) (fun s => s.1 ≤ (nbP E v).length ∧ isHeap s.2.2 s.2.2.length ∧ HI m out' s.2.1 s.2.2 ∧ ∀ u, u < m → s.2.1 u + ((nbP E v).take s.1).count (u : Int) = pend E m out u) (fun s => (nbP E v).length - s.1) (0, (fun u => pend E m out u), h') ⟨Nat.zero_le _, hp2, hH', fun u _ => by simp⟩ (by (repeat (first | exact trivial | refine ⟨by rfl, ?_⟩)); done) (by repeat' (first | exact Cover.nil | exact Take.here | apply Cover.cons | apply Take.there)) ?_
          rintro ⟨j, g, h1⟩ ⟨hj, hh3, hH1, hG⟩
          dsimp only at hj hh3 hH1 hG ⊢
          have hl1 := hH1.len
          refine g_seq ?_
          refine g_region ?_
          refine g_pure (p_lss rfl rfl) rfl ?_
          refine g_nil ?_
          refine g_qt ?_
          refine g_seq ?_
          refine g_ifd rfl (fun r => ?_) (fun r => ?_)
          · have hj' : j < (nbP E v).length := by omega
            obtain ⟨bl, ol, cl, Tl, zl, l1, l2, l3⟩ := rsl_at r4 (by omega)
            have l3 := l3 j hj'
            have hin := nb_in ho hj'
            have hct := count_take hj'
            have hc0 := nb_count hj'
            have hmem := nbP_mem.1 (List.getElem_mem hj')
            generalize hw : (nbP E v)[j] = w at *
            obtain ⟨u, rfl⟩ : ∃ u : Nat, w = u := ⟨w.toNat, by omega⟩
            have hu : u < m := by omega
            have hg1 := hG u hu
            have hg2 := hPs u
            rw [if_pos hmem] at hg2
            have huo : (u : Int) ∉ out' := fun hm => by
              rw [← hout, List.mem_append, List.mem_singleton] at hm
              rcases hm with e | e
              · have := hO.pre u hu e; omega
              · rw [show u = v by omega] at hg2
                have := (ready_iff.1 hvr).2
                omega
            have hcell : (cellsG m g)[0 + (u : Int).toNat * 1]? = some (.int .i64 ((g u : Nat) : Int)) := by
              rw [Int.toNat_natCast, Nat.zero_add, Nat.mul_one]; exact cellsG_at hu
            have hset : (cellsG m g).set (0 + (u : Int).toNat * 1) (.int .i64 (((g u : Nat) : Int) - 1)) = cellsG m (decG g u) := by
              rw [Int.toNat_natCast, Nat.zero_add, Nat.mul_one]
              exact cellsG_set (by unfold decG; rw [if_pos rfl]; omega) fun i _ hi => by unfold decG; rw [if_neg hi]
            have hcell2 : (cellsG m (decG g u))[0 + (u : Int).toNat * 1]? = some (.int .i64 ((decG g u u : Nat) : Int)) := by
              rw [Int.toNat_natCast, Nat.zero_add, Nat.mul_one]; exact cellsG_at hu
            have hdu : decG g u u = g u - 1 := by unfold decG; rw [if_pos rfl]
            have hpl : pend E m out (u : Int) ≤ m := by
              have := List.countP_le_length (p := fun x : Nat => decide ((x : Int) ∉ out ∧ ((x : Int), (u : Int)) ∈ E)) (l := List.range m)
              rw [List.length_range] at this
              exact this
            have hG' : ∀ x, x < m → decG g u x + ((nbP E v).take (j + 1)).count (x : Int) = pend E m out x := fun x hx => by
              rw [hct x, ← hG x hx]
              unfold decG
              by_cases e : x = u
              · subst e; rw [if_pos rfl, if_pos rfl]; omega
              · rw [if_neg e, if_neg (by omega)]; rfl
            refine g_skip ?_
            refine g_qt ?_
            refine g_seq ?_
            refine g_block ?_
            refine g_seq ?_
            refine g_region ?_
            refine g_pure (p_indexAddr rfl rfl (by omega) (fun _ => l1)) rfl ?_
            refine g_pure (p_load (by rfl) rfl (Has.ro l2) l3) rfl ?_
            refine g_pure (p_assign rfl) rfl ?_
            refine g_nil ?_
            refine g_qt ?_
            refine g_seq ?_
            refine g_region ?_
            refine g_pure (p_move rfl) rfl ?_
            refine g_pure (p_move rfl) rfl ?_
            refine g_pure (p_indexAddr rfl rfl (by omega) (fun _ => rfl)) rfl ?_
            refine g_pure (p_load (by rfl) rfl (Has.own (by repeat' (first | exact Take.here | apply Take.there))) hcell) rfl ?_
            first | refine g_pure (p_subi rfl rfl (by omega)) rfl ?_ | refine g_pure (p_sub rfl rfl) rfl ?_
            refine g_pure (p_indexAddr rfl rfl (by omega) (fun _ => rfl)) rfl ?_
            refine g_eff0 (e_store1 (by rfl) rfl rfl rfl (by repeat' (first | exact Take.here | apply Take.there)) (by rw [cellsG_len, Int.toNat_natCast]; show 0 + u * 1 < m; omega)) (fun _ _ => ?_)
            rintro rfl
            refine g_nil ?_
            refine g_qt ?_
            refine g_seq ?_
            refine g_weak .here (blk_eq hset) ?_
            refine g_region ?_
            refine g_pure (p_move rfl) rfl ?_
            refine g_pure (p_move rfl) rfl ?_
            refine g_pure (p_indexAddr rfl rfl (by omega) (fun _ => rfl)) rfl ?_
            refine g_pure (p_load (by rfl) rfl (Has.own (by repeat' (first | exact Take.here | apply Take.there))) hcell2) rfl ?_
            refine g_pure (p_eql rfl rfl) rfl ?_
            refine g_nil ?_
            refine g_qt ?_
            refine g_ifd rfl (fun y => ?_) (fun y => ?_)
            · refine g_region ?_
              refine g_pure (p_move rfl) rfl ?_
              refine g_pure (p_mkI rfl rfl) rfl ?_
              refine g_pure (p_move rfl) rfl ?_
              refine g_pure (p_mkI rfl rfl) rfl ?_
              refine g_call (Hin := [HpA b49 h1]) (Hr := ?hr6) (R := ?rr6) rfl rfl rfl ?hin6 ?hc6 ?hk6
              case hin6 => repeat' (first | exact Cover.nil | exact Take.here | apply Cover.cons | apply Take.there)
              case hc6 => intro ρ' hρ hR; exact pushH_ok b49 h1 u hh3 (by omega)
              rintro _ _ ⟨rfl, h2, rfl, hp3, hp4⟩
              refine g_nil ?_
              refine g_qb ?_
              refine g_qt ?_
              refine g_region ?_
              first | refine g_pure (p_addi rfl rfl (by omega)) rfl ?_ | refine g_pure (p_add rfl rfl) rfl ?_
              refine g_pure (p_move rfl) rfl ?_
              refine g_nil ?_
              refine g_qn ?_
              exact g_next (j + 1, decG g u, h2) (by (repeat (first | exact trivial | refine ⟨by rfl, ?_⟩)); done) (by repeat' (first | exact Cover.nil | exact Take.here | apply Cover.cons | apply Take.there)) ⟨by dsimp only; omega, hp4, hH1.push (by omega) hu huo hp3, hG'⟩ (by dsimp only; omega)
            · refine g_skip ?_
              refine g_qb ?_
              refine g_qt ?_
              refine g_region ?_
              first | refine g_pure (p_addi rfl rfl (by omega)) rfl ?_ | refine g_pure (p_add rfl rfl) rfl ?_
              refine g_pure (p_move rfl) rfl ?_
              refine g_nil ?_
              refine g_qn ?_
              exact g_next (j + 1, decG g u, h1) (by (repeat (first | exact trivial | refine ⟨by rfl, ?_⟩)); done) (by repeat' (first | exact Cover.nil | exact Take.here | apply Cover.cons | apply Take.there)) ⟨by dsimp only; omega, hh3, hH1.skip (by omega), hG'⟩ (by dsimp only; omega)
          · have hje : j = (nbP E v).length := by omega
            have hge : ∀ u, u < m → g u = pend E m out' u := fun u hu => by
              have h1 := hG u hu
              have h2 := hPs u
              have h3 := count_sorted (nbP_sorted E v) (u : Int)
              rw [hje, List.take_length, h3] at h1
              by_cases e : ((v : Int), (u : Int)) ∈ E
              · rw [if_pos e] at h2; rw [if_pos (nbP_mem.2 e)] at h1; omega
              · rw [if_neg e] at h2; rw [if_neg (fun x => e (nbP_mem.1 x))] at h1; omega
            refine g_weak (B := Blk b27 (.cells (cellsG m (fun u => pend E m out' u)).toArray 3 (0, 0))) .here (blk_eq (cellsG_eq hge)) ?_
            have hol : out'.length = out.length + 1 := by rw [← hout]; simp
            refine g_exit ?_
            refine g_qt_exit ?_
            refine g_qn_exit ?_
            refine g_qb_exit ?_
            refine g_qb ?_
            refine g_qn ?_
            exact g_next (out', h1, a77, c77) (by (repeat (first | exact trivial | refine ⟨by rfl, ?_⟩)); done) (by repeat' (first | exact Cover.nil | exact Take.here | apply Cover.cons | apply Take.there)) ⟨hO', hH1.eq hge, hh3⟩ (by dsimp only; omega)
        · have hhe : h = [] := List.eq_nil_of_length_eq_zero (by omega)
          subst hhe
          have hoe := hO.none hH.none
          have hor : orderA m E = if out.length < m then ([], 13) else (out, 0) := by unfold orderA; rw [hv, Int.toNat_natCast, hoe]; rfl
          refine g_exit ?_
          refine g_qt_exit ?_
          refine g_qn_exit ?_
          refine g_qb_exit ?_
          refine g_qt ?_
          refine g_seq ?_
          refine g_seq ?_
          refine g_region ?_
          refine g_pure (p_move rfl) rfl ?_
          refine g_pure (p_len (by rfl) rfl) rfl ?_
          refine g_pure (p_move rfl) rfl ?_
          refine g_pure (p_lss rfl rfl) rfl ?_
          refine g_nil ?_
          refine g_qt ?_
          refine g_ifd rfl (fun r => ?_) (fun r => ?_)
          · refine g_seq ?_
            refine g_region ?_
            refine g_pure (p_assign rfl) rfl ?_
            refine g_pure (p_assign rfl) rfl ?_
            refine g_nil ?_
            refine g_qt ?_
            refine g_ret ?_
            refine g_qt_ret ?_
            rw [hor, if_pos (by omega)]
            refine g_ownnil (e := 3) (size := 1) ?_
            refine g_thaw hρ1 ?_
            exact g_post (rs := [.tmp 4, .tmp 5]) rfl (.tmp rfl (.tmp rfl .nil)) ⟨none, 0, rfl, rfl⟩ (by repeat' (first | exact Cover.nil | exact Take.here | apply Cover.cons | apply Take.there))
          · refine g_skip ?_
            refine g_qt ?_
            refine g_seq ?_
            refine g_region ?_
            refine g_pure (p_move rfl) rfl ?_
            refine g_pure (p_assign rfl) rfl ?_
            refine g_pure (p_assign rfl) rfl ?_
            refine g_nil ?_
            refine g_qt ?_
            refine g_ret ?_
            rw [hor, if_neg (by omega)]
            refine g_thaw hρ1 ?_
            exact g_post (rs := [.tmp 4, .tmp 5]) rfl (.tmp rfl (.tmp rfl .nil)) ⟨oa, oc, rfl, rfl⟩ (by repeat' (first | exact Cover.nil | exact Take.here | apply Cover.cons | apply Take.there))
end Go.Proofs.Ytmefecnjliadaaa
