/- Chapter 4: the methods of the heap of vertices. Conditions: none. -/
import Derived.Test.YtmefecnjliadaaaZl
import Derived.Test.YtmefecnjliadaaaTy
import Derived.Test.YtmefecnjliadaaaZn
import Derived.Test.YtmefecnjliadaaaNc
namespace Go.Z.Gr
set_option maxRecDepth 8000
set_option linter.unusedVariables false
set_option linter.unusedSimpArgs false
set_option linter.unusedSectionVars false
open Go Go.Z
theorem own_set {cur : List Value} {l : List Int} {i : Nat} (x : Int) (h : cur.take (l.length * 1) = l.map encI) : (cur.set (0 + i * 1) (encI x)).take (l.length * 1) = (l.set i x).map encI := by
  rw [List.take_set, h, List.map_set, Nat.zero_add, Nat.mul_one]
theorem own_swap {cur : List Value} {l : List Int} {i j : Nat} (hi : i < l.length) (hj : j < l.length) (h : cur.take (l.length * 1) = l.map encI) :
    ((cur.set (0 + (i : Int).toNat * 1) (.int .i64 (gI l j))).set (0 + (j : Int).toNat * 1) (.int .i64 (gI l i))).take (l.length * 1) = (swapL l i j).map encI := by
  have e1 := own_set (i := i) (gI l j) h
  have e2 := own_set (l := l.set i (gI l j)) (i := j) (gI l i) (by rw [List.length_set]; exact e1)
  rw [List.length_set] at e2
  exact e2
theorem own_gI {cur : List Value} {l : List Int} {i : Nat} (h : cur.take (l.length * 1) = l.map encI) (hi : i < l.length) : cur[0 + (i : Int).toNat * 1]? = some (.int .i64 (gI l i)) := by
  have : (l.map encI)[i]? = some (.int .i64 (gI l i)) := by rw [List.getElem?_map, List.getElem?_eq_getElem hi, gI_at hi]; rfl
  rw [← h] at this
  rw [List.getElem?_take] at this
  split at this
  · simpa using this
  · cases this
end Go.Z.Gr
namespace Go.Proofs.Ytmefecnjliadaaa
set_option maxRecDepth 8000
set_option linter.unusedVariables false
set_option linter.unusedSimpArgs false
set_option linter.unusedSectionVars false
open Go Go.Z Go.Z.Gr
def HpK (b : Nat) (l : List Int) : List Assn → Prop := fun H => ∃ a c, H = [Blk b (.cells [.slice a l.length c].toArray 46 (0, 0)), OwnSl 3 1 a l.length c (l.map encI)]
def HpA (b : Nat) (l : List Int) : Assn := Pk (HpK b l)

theorem hlen_ok {ρ : Nat → Obj → Prop} (a : Option Addr) (c : Nat) (k : Nat) : Con Try.prog ρ 26 #[.slice a k c] [] (fun v H => v = .int .i64 k ∧ H = []) := by
  refine con_intro Try.func26 Try.call26 rfl Try.ntmps26 rfl (L := [(0, _)]) rfl fun w hh => ?_
  refine g_seq ?_
  refine g_region ?_
  refine g_pure (p_assign rfl) rfl ?_
  refine g_nil ?_
  refine g_qt ?_
  refine g_seq ?_
  refine g_region ?_
  refine g_pure (p_move rfl) rfl ?_
  refine g_pure (p_len (by rfl) rfl) rfl ?_
  refine g_pure (p_assign rfl) rfl ?_
  refine g_nil ?_
  refine g_qt ?_
  refine g_ret ?_
  exact g_post (rs := [.tmp 2]) rfl (.tmp rfl .nil) ⟨rfl, rfl⟩ (by repeat' (first | exact Cover.nil | exact Take.here | apply Cover.cons | apply Take.there))
theorem hless_ok {ρ : Nat → Obj → Prop} (a : Option Addr) (c : Nat) (l : List Int) (i j : Nat) (hi : i < l.length) (hj : j < l.length) :
    Con Try.prog ρ 87 #[.slice a l.length c, .int .i64 i, .int .i64 j] [OwnSl 3 1 a l.length c (l.map encI)] (fun v H => v = .bool (decide (gI l i < gI l j)) ∧ H = [OwnSl 3 1 a l.length c (l.map encI)]) := by
  refine con_intro Try.func87 Try.call87 rfl Try.ntmps87 rfl (L := [(0, _), (1, _), (2, _)]) rfl fun w hh => ?_
  refine g_own .here (fun _ h _ _ => absurd h (by omega)) ?_
  rintro g cur rfl v1 v2 v3 v4 v5
  refine g_seq ?_
  refine g_region ?_
  refine g_pure (p_assign rfl) rfl ?_
  refine g_nil ?_
  refine g_qt ?_
  refine g_seq ?_
  refine m_begin (.fl 0 0 (.fl 1 0 (.fl 2 0 (.fl 3 1 (.fl 4 0 (.fl 5 0 (.fl 6 0 (.fl 7 1 (.fl 8 0 (.fl 9 0 .done)))))))))) [Blk g (.cells cur.toArray 3 (0, 0))] (by kernel_rfl) (by kernel_rfl) (by repeat' (first | exact Cover.nil | exact Take.here | apply Cover.cons | apply Take.there)) ?_
  refine m_float0 rfl (fun _ _ => p_move rfl) rfl ?_
  refine m_float0 rfl (fun _ _ => p_move rfl) rfl ?_
  refine m_float0 rfl (fun _ _ => p_indexAddr rfl rfl (by omega) (fun _ => rfl)) rfl ?_
  refine m_float rfl (p_load (by rfl) rfl (Has.own (by repeat' (first | exact Take.here | apply Take.there))) (own_gI v4 hi)) rfl ?_
  refine m_float0 rfl (fun _ _ => p_move rfl) rfl ?_
  refine m_float0 rfl (fun _ _ => p_move rfl) rfl ?_
  refine m_float0 rfl (fun _ _ => p_indexAddr rfl rfl (by omega) (fun _ => rfl)) rfl ?_
  refine m_float rfl (p_load (by rfl) rfl (Has.own (by repeat' (first | exact Take.here | apply Take.there))) (own_gI v4 hj)) rfl ?_
  refine m_float0 rfl (fun _ _ => p_lss rfl rfl) rfl ?_
  refine m_float0 rfl (fun _ _ => p_assign rfl) rfl ?_
  refine m_nil ?_
  refine g_qt ?_
  refine g_ret ?_
  refine g_fold (k := l.length) (cap := c) (size := 1) .here v1 v2 v3 v4 ?_
  exact g_post (rs := [.tmp 6]) rfl (.tmp rfl .nil) ⟨rfl, rfl⟩ (by repeat' (first | exact Cover.nil | exact Take.here | apply Cover.cons | apply Take.there))
theorem hswap_ok {ρ : Nat → Obj → Prop} (a : Option Addr) (c : Nat) (l : List Int) (i j : Nat) (hi : i < l.length) (hj : j < l.length) :
    Con Try.prog ρ 90 #[.slice a l.length c, .int .i64 i, .int .i64 j] [OwnSl 3 1 a l.length c (l.map encI)] (fun v H => v = .tuple #[] ∧ H = [OwnSl 3 1 a l.length c ((swapL l i j).map encI)]) := by
  refine con_intro Try.func90 Try.call90 rfl Try.ntmps90 rfl (L := [(0, _), (1, _), (2, _)]) rfl fun w hh => ?_
  refine g_own .here (fun _ h _ _ => absurd h (by omega)) ?_
  rintro g cur rfl v1 v2 v3 v4 v5
  refine m_begin0 (.fl 0 0 (.fl 1 0 (.fl 2 0 (.fl 3 0 (.fl 4 0 (.fl 5 0 (.fl 6 0 (.fl 7 1 (.fl 8 0 (.fl 9 0 (.fl 10 0 (.fl 11 1 (.fl 12 0 (.ef 13 (.fl 14 0 (.ef 15 .done)))))))))))))))) (by kernel_rfl) (by kernel_rfl) ?_
  refine m_float0 rfl (fun _ _ => p_move rfl) rfl ?_
  refine m_float0 rfl (fun _ _ => p_move rfl) rfl ?_
  refine m_float0 rfl (fun _ _ => p_move rfl) rfl ?_
  refine m_float0 rfl (fun _ _ => p_move rfl) rfl ?_
  refine m_float0 rfl (fun _ _ => p_move rfl) rfl ?_
  refine m_float0 rfl (fun _ _ => p_move rfl) rfl ?_
  refine m_float0 rfl (fun _ _ => p_indexAddr rfl rfl (by omega) (fun _ => rfl)) rfl ?_
  refine m_float rfl (p_load (by rfl) rfl (Has.own (by repeat' (first | exact Take.here | apply Take.there))) (own_gI v4 hj)) rfl ?_
  refine m_float0 rfl (fun _ _ => p_move rfl) rfl ?_
  refine m_float0 rfl (fun _ _ => p_move rfl) rfl ?_
  refine m_float0 rfl (fun _ _ => p_indexAddr rfl rfl (by omega) (fun _ => rfl)) rfl ?_
  refine m_float rfl (p_load (by rfl) rfl (Has.own (by repeat' (first | exact Take.here | apply Take.there))) (own_gI v4 hi)) rfl ?_
  refine m_float0 rfl (fun _ _ => p_indexAddr rfl rfl (by omega) (fun _ => rfl)) rfl ?_
  first | refine m_eff0 rfl (e_storeO rfl rfl (by rfl) (by rfl) (by rfl) (by repeat' (first | exact Take.here | apply Take.there)) (by rfl)) (fun _ _ => ?_) | refine m_eff0 rfl (e_store1 (by rfl) rfl rfl rfl (by repeat' (first | exact Take.here | apply Take.there)) (by first | decide | (simp <;> omega) | omega)) (fun _ _ => ?_)
  rintro rfl
  refine ⟨.none (by kernel_rfl), ?_⟩
  refine m_float0 rfl (fun _ _ => p_indexAddr rfl rfl (by omega) (fun _ => rfl)) rfl ?_
  first | refine m_eff0 rfl (e_storeO rfl rfl (by rfl) (by rfl) (by rfl) (by repeat' (first | exact Take.here | apply Take.there)) (by rfl)) (fun _ _ => ?_) | refine m_eff0 rfl (e_store1 (by rfl) rfl rfl rfl (by repeat' (first | exact Take.here | apply Take.there)) (by first | decide | (simp <;> omega) | omega)) (fun _ _ => ?_)
  rintro rfl
  refine ⟨.none (by kernel_rfl), ?_⟩
  refine m_nil ?_
  refine g_fold (k := l.length) (cap := c) (size := 1) (xs := (swapL l i j).map encI) .here v1 v2 (by rw [List.length_set, List.length_set]; exact v3) (own_swap hi hj v4) ?_
  exact g_postn (rs := []) rfl .nil ⟨rfl, rfl⟩ (by repeat' (first | exact Cover.nil | exact Take.here | apply Cover.cons | apply Take.there))
theorem hpush_ok {ρ : Nat → Obj → Prop} (b : Nat) (l : List Int) (x : Int) (hlen : l.length ≤ 1000000) :
    Con Try.prog ρ 89 #[.pointer (some ⟨b, 0, none⟩), .iface 3 (.int .i64 x)] [HpA b l] (fun v H => v = .tuple #[] ∧ H = [HpA b (l ++ [x])]) := by
  refine con_intro Try.func89 Try.call89 rfl Try.ntmps89 rfl (L := [(0, _), (1, _)]) rfl fun w hh => ?_
  refine g_open .here ?_
  rintro _ ⟨a, c, rfl⟩
  refine m_begin0 (.fl 0 0 (.fl 1 0 (.fl 2 0 (.fl 3 1 (.fl 4 0 (.ef 5 (.ef 6 (.ef 7 (.fl 8 0 (.ef 9 .done)))))))))) (by kernel_rfl) (by kernel_rfl) ?_
  refine m_float0 rfl (fun _ _ => p_move rfl) rfl ?_
  refine m_float0 rfl (fun _ _ => p_move rfl) rfl ?_
  refine m_float0 rfl (fun _ _ => p_nilCheck rfl) rfl ?_
  refine m_float rfl (p_load (by rfl) rfl (by first | (apply Has.own; (repeat' (first | exact Take.here | apply Take.there)); done) | exact Has.ro (by assumption)) (by first | rfl | assumption)) rfl ?_
  refine m_float0 rfl (fun _ _ => p_move rfl) rfl ?_
  refine m_eff rfl (Pur.eff (p_assertI rfl rfl)) rfl (fun _ _ => ?_)
  rintro ⟨rfl, rfl⟩
  refine ⟨.some (by repeat' (first | exact Cover.nil | exact Take.here | apply Cover.cons | apply Take.there)), ?_⟩
  refine m_eff rfl (e_bs (xs := [.tmp 9]) rfl rfl rfl (by rfl) (by rfl) rfl (by rfl)) rfl (fun _ _ => ?_)
  rintro ⟨b10, rfl, rfl⟩
  refine ⟨.some (by repeat' (first | exact Cover.nil | exact Take.here | apply Cover.cons | apply Take.there)), ?_⟩
  refine m_eff rfl (e_appendO (by rfl) (by rfl) rfl rfl (by first | (apply Has.own; (repeat' (first | exact Take.here | apply Take.there)); done) | exact Has.ro (by assumption)) (by rfl) (by rfl) (by repeat' (first | exact Take.here | apply Take.there)) (by omega) (by first | omega | (dsimp only; omega) | (simp <;> omega)) (by omega)) rfl (fun _ _ => ?_)
  rintro ⟨a11, c11, rfl, rfl⟩
  refine ⟨.none (by kernel_rfl), ?_⟩
  refine m_float0 rfl (fun _ _ => p_nilCheck rfl) rfl ?_
  first | refine m_eff0 rfl (e_storeO rfl rfl (by rfl) (by rfl) (by rfl) (by repeat' (first | exact Take.here | apply Take.there)) (by rfl)) (fun _ _ => ?_) | refine m_eff0 rfl (e_store1 (by rfl) rfl rfl rfl (by repeat' (first | exact Take.here | apply Take.there)) (by first | decide | (simp <;> omega) | omega)) (fun _ _ => ?_)
  rintro rfl
  refine ⟨.none (by kernel_rfl), ?_⟩
  refine m_nil ?_
  rw [show l.map encI ++ [Value.int IntKind.i64 x] = (l ++ [x]).map encI by rw [List.map_append]; rfl, show l.length + 1 = (l ++ [x]).length by simp]
  refine g_close (K := HpK b (l ++ [x])) ⟨a11, c11, rfl⟩ (by repeat' (first | exact Cover.nil | exact Take.here | apply Cover.cons | apply Take.there)) ?_
  exact g_postn (rs := []) rfl .nil ⟨rfl, rfl⟩ (by repeat' (first | exact Cover.nil | exact Take.here | apply Cover.cons | apply Take.there))
theorem hpop_ok {ρ : Nat → Obj → Prop} (b : Nat) (l : List Int) (x : Int) (hlen : l.length ≤ 1000000) :
    Con Try.prog ρ 88 #[.pointer (some ⟨b, 0, none⟩)] [HpA b (l ++ [x])] (fun v H => v = .iface 3 (.int .i64 x) ∧ H = [HpA b l]) := by
  refine con_intro Try.func88 Try.call88 rfl Try.ntmps88 rfl (L := [(0, _)]) rfl fun w hh => ?_
  refine g_open .here ?_
  rintro _ ⟨a, c, rfl⟩
  refine g_own (.there .here) (fun _ h _ _ => absurd h (by simp)) ?_
  rintro g cur rfl v1 v2 v3 v4 v5
  have hg := own_gI v4 (i := l.length) (by simp)
  rw [show gI (l ++ [x]) l.length = x by rw [gI_at (by simp)]; simp] at hg
  have hll : (l ++ [x]).length = l.length + 1 := by simp
  refine g_seq ?_
  refine g_region ?_
  refine g_pure (p_assign rfl) rfl ?_
  refine g_nil ?_
  refine g_qt ?_
  refine g_seq ?_
  refine g_region ?_
  refine g_pure (p_move rfl) rfl ?_
  refine g_pure (p_nilCheck rfl) rfl ?_
  refine g_pure (p_load (by rfl) rfl (by first | (apply Has.own; (repeat' (first | exact Take.here | apply Take.there)); done) | exact Has.ro (by assumption)) (by first | rfl | assumption)) rfl ?_
  refine g_pure (p_assign rfl) rfl ?_
  refine g_nil ?_
  refine g_qt ?_
  refine g_seq ?_
  refine g_region ?_
  refine g_pure (p_move rfl) rfl ?_
  refine g_pure (p_move rfl) rfl ?_
  refine g_pure (p_len (by rfl) rfl) rfl ?_
  first | refine g_pure (p_subi rfl rfl (by omega)) rfl ?_ | refine g_pure (p_sub rfl rfl) rfl ?_
  refine g_pure (p_indexAddr rfl rfl (by omega) (fun _ => rfl)) rfl ?_
  refine g_pure (p_load (by rfl) rfl (Has.own (by repeat' (first | exact Take.here | apply Take.there))) (by rw [show ((((l ++ [x]).length : Nat) : Int) - 1).toNat = ((l.length : Int)).toNat by omega]; exact hg)) rfl ?_
  refine g_pure (p_assign rfl) rfl ?_
  refine g_nil ?_
  refine g_qt ?_
  refine g_seq ?_
  refine g_region ?_
  refine g_pure (p_move rfl) rfl ?_
  refine g_pure (p_move rfl) rfl ?_
  refine g_pure (p_move rfl) rfl ?_
  refine g_pure (p_len (by rfl) rfl) rfl ?_
  first | refine g_pure (p_subi rfl rfl (by omega)) rfl ?_ | refine g_pure (p_sub rfl rfl) rfl ?_
  refine g_pure (p_sliceh rfl rfl (by omega)) rfl ?_
  refine g_pure (p_nilCheck rfl) rfl ?_
  first | refine g_eff0 (e_storeO rfl rfl (by rfl) (by rfl) (by rfl) (by repeat' (first | exact Take.here | apply Take.there)) (by rfl)) (fun _ _ => ?_) | refine g_eff0 (e_store1 (by rfl) rfl rfl rfl (by repeat' (first | exact Take.here | apply Take.there)) (by first | decide | (simp <;> omega) | omega)) (fun _ _ => ?_)
  rintro rfl
  refine g_nil ?_
  refine g_qt ?_
  refine g_seq ?_
  refine g_region ?_
  refine g_pure (p_move rfl) rfl ?_
  refine g_pure (p_mkI rfl rfl) rfl ?_
  refine g_pure (p_assign rfl) rfl ?_
  refine g_nil ?_
  refine g_qt ?_
  refine g_ret ?_
  rw [show (((l ++ [x]).length : Int) - 1).toNat = l.length by omega]
  refine g_fold (k := l.length) (cap := c) (size := 1) (xs := l.map encI) (.there .here) (by omega) v2 v3 (by rw [Nat.mul_one] at v4 ⊢; have := congrArg (List.take l.length) v4; rw [List.take_take, Nat.min_eq_left (by omega), ← List.map_take, List.take_left] at this; exact this) ?_
  refine g_close (K := HpK b l) ⟨_, _, rfl⟩ (by repeat' (first | exact Cover.nil | exact Take.here | apply Cover.cons | apply Take.there)) ?_
  exact g_post (rs := [.tmp 2]) rfl (.tmp rfl .nil) ⟨rfl, rfl⟩ (by repeat' (first | exact Cover.nil | exact Take.here | apply Cover.cons | apply Take.there))
end Go.Proofs.Ytmefecnjliadaaa
