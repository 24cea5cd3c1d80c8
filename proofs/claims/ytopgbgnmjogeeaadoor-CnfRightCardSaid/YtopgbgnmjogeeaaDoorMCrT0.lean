/- Own texts, put together: T0 T1 T2 T3 T4 T5 T6 T7 T8 T9. Conditions: as told at each. -/
import Derived.Test.YtopgbgnmjogeeaaDoorMCrS0
/- Chapter 37: literals taken back, plain. Conditions: none. -/
namespace Go.Z.Sat
set_option maxRecDepth 8000
set_option linter.unusedVariables false
set_option linter.unusedSimpArgs false
set_option linter.unusedSectionVars false
open Go Go.Z

def unput (a : As) (l : Int) : As := fun v => if v = l.natAbs then none else a v
theorem put_unput {a : As} {l : Int} (h : lv a l = some true) : put (unput a l) l = a := by
  funext v
  unfold put unput
  by_cases e : v = l.natAbs
  · rw [if_pos e, e]
    rw [lv_abs] at h
    split at h
    · rename_i h0; rw [h, decide_eq_true h0]
    · rename_i h0
      cases hv : a l.natAbs with
      | none => rw [hv] at h; cases h
      | some x => rw [hv] at h; cases x <;> simp at h; rw [decide_eq_false h0]
  · rw [if_neg e, if_neg e]
theorem lv_unput (a : As) (l : Int) : lv (unput a l) l = none := by
  rw [lv_abs]; unfold unput; split <;> simp
theorem unput_put {a : As} {l : Int} (h : lv a l = none) : unput (put a l) l = a := by
  funext v
  unfold unput
  by_cases e : v = l.natAbs
  · rw [if_pos e, e]
    rw [lv_abs] at h
    split at h
    · exact h.symm
    · cases hv : a l.natAbs with
      | none => rfl
      | some x => rw [hv] at h; cases h
  · rw [if_neg e]
    unfold put
    rw [if_neg e]
theorem vcells_unput {n : Nat} {V : As} {l : Int} (hl : okL n l) : (vcells n V).set l.natAbs (.int .i64 0) = vcells n (unput V l) := by
  refine List.ext_getElem? fun i => ?_
  rw [List.getElem?_set]
  by_cases h : l.natAbs = i
  · have hi : i ≤ n := by have := hl.2; omega
    rw [if_pos h, vcells_len, if_pos (by omega), vcells_at _ hi]
    unfold unput
    rw [if_pos h.symm]; rfl
  · rw [if_neg h]
    by_cases hi : i ≤ n
    · rw [vcells_at _ hi, vcells_at _ hi]
      unfold unput
      rw [if_neg (fun e => h e.symm)]
    · rw [List.getElem?_eq_none (by rw [vcells_len]; omega), List.getElem?_eq_none (by rw [vcells_len]; omega)]

theorem bump1_comm (X : List Nat) (i j : Nat) : bump1 (bump1 X i) j = bump1 (bump1 X j) i := by
  refine List.ext_getElem (by simp [bump1_len]) fun k h1 h2 => ?_
  have e1 : ∀ (X : List Nat) (h : k < X.length), X[k] = X.getD k 0 := fun X h => by rw [List.getD_eq_getElem?_getD, List.getElem?_eq_getElem h]; rfl
  rw [e1 _ h1, e1 _ h2, bump1_get, bump1_get, bump1_get, bump1_get, bump1_len, bump1_len]
  omega
theorem bump_bump1 : ∀ (us X : List Nat) (i : Nat), bump (bump1 X i) us = bump1 (bump X us) i
  | [], X, i => rfl
  | j :: us, X, i => by
    show bump (bump1 (bump1 X i) j) us = bump1 (bump (bump1 X j) us) i
    rw [bump1_comm, bump_bump1 us]
theorem bump_cons (X : List Nat) (i : Nat) (us : List Nat) : bump X (i :: us) = bump1 (bump X us) i := bump_bump1 us X i

/-- the values after the literals of R, each new, were taken back in their order -/
def unputs (a : As) (R : List Int) : As := R.foldl unput a
theorem asg_append (T R : List Int) : asg (T ++ R) = R.foldl put (asg T) := by simp [asg]
theorem unputs_get : ∀ (R : List Int) (a : As) (v : Nat), unputs a R v = if v ∈ R.map Int.natAbs then none else a v
  | [], a, v => by simp [unputs]
  | l :: R, a, v => by
    show unputs (unput a l) R v = _
    rw [unputs_get R (unput a l) v]
    unfold unput
    by_cases h1 : v ∈ R.map Int.natAbs
    · rw [if_pos h1, if_pos (by simp only [List.map_cons, List.mem_cons]; exact .inr h1)]
    · rw [if_neg h1]
      by_cases h2 : v = l.natAbs
      · rw [if_pos h2, if_pos (by simp [h2])]
      · rw [if_neg h2, if_neg (by simp only [List.map_cons, List.mem_cons]; rintro (h | h); exact h2 h; exact h1 h)]
theorem puts_get : ∀ (R : List Int) (a : As) (v : Nat), v ∉ R.map Int.natAbs → R.foldl put a v = a v
  | [], a, v, _ => rfl
  | l :: R, a, v, h => by
    simp only [List.map_cons, List.mem_cons, not_or] at h
    show R.foldl put (put a l) v = a v
    rw [puts_get R (put a l) v h.2]
    unfold put
    rw [if_neg h.1]
theorem puts_some : ∀ (R : List Int) (a : As) (v : Nat), R.foldl put a v = none → a v = none
  | [], a, v, h => h
  | l :: R, a, v, h => by
    have := puts_some R (put a l) v h
    unfold put at this
    split at this
    · cases this
    · exact this
theorem unputs_puts {A : As} {R : List Int} (h : ∀ i (hi : i < R.length), lv ((R.take i).foldl put A) R[i] = none) : unputs (R.foldl put A) R = A := by
  funext v
  rw [unputs_get]
  by_cases e : v ∈ R.map Int.natAbs
  · rw [if_pos e]
    obtain ⟨l, hl, rfl⟩ := List.mem_map.1 e
    obtain ⟨i, hi, rfl⟩ := List.getElem_of_mem hl
    have := h i hi
    have h2 : ((R.take i).foldl put A) R[i].natAbs = none := by
      rw [lv_abs] at this
      split at this
      · exact this
      · cases hv : ((R.take i).foldl put A) R[i].natAbs with
        | none => rfl
        | some x => rw [hv] at this; cases this
    exact (puts_some _ _ _ h2).symm
  · rw [if_neg e, puts_get R A v e]
theorem Inv.cut {n : Nat} {F : Fm} {a V : As} {T : List Int} (h : Inv n F a V T) {k : Nat} (hk : k ≤ T.length) : unputs V (T.drop k) = asg (T.take k) := by
  have e : V = (T.drop k).foldl put (asg (T.take k)) := by rw [h.val, ← asg_append, List.take_append_drop]
  rw [e]
  refine unputs_puts fun i hi => ?_
  rw [List.length_drop] at hi
  have := h.new (k + i) (by omega)
  rw [List.getElem_drop, ← asg_append, ← List.take_add]
  exact this
theorem foldl_put_some : ∀ (R : List Int) (a : As) (v : Nat), v ∈ R.map Int.natAbs → R.foldl put a v ≠ none
  | [], a, v, h => absurd h (by simp)
  | l :: R, a, v, h => by
    intro e
    have h1 := puts_some R (put a l) v e
    by_cases e1 : v ∈ R.map Int.natAbs
    · exact foldl_put_some R (put a l) v e1 e
    · simp only [List.map_cons, List.mem_cons] at h
      have : v = l.natAbs := by rcases h with h | h; exact h; exact absurd h e1
      unfold put at h1
      rw [if_pos this] at h1; cases h1
theorem Inv.at {n : Nat} {F : Fm} {a V : As} {T : List Int} (h : Inv n F a V T) {k j : Nat} (hj : k + j < T.length) : lv (unputs V ((T.drop k).take j)) T[k + j] = some true := by
  have hn := h.new (k + j) hj
  have hl := h.lits _ (List.getElem_mem hj)
  have hnv : asg (T.take (k + j)) T[k + j].natAbs = none := by
    rw [lv_abs] at hn
    split at hn
    · exact hn
    · cases hv : asg (T.take (k + j)) T[k + j].natAbs with
      | none => rfl
      | some x => rw [hv] at hn; cases hn
  have hnot : T[k + j].natAbs ∉ ((T.drop k).take j).map Int.natAbs := fun hm => by
    refine foldl_put_some ((T.drop k).take j) (asg (T.take k)) _ hm ?_
    rw [← asg_append, ← List.take_add]; exact hnv
  have hV : lv V T[k + j] = some true := by
    have e : V = (T.drop (k + j + 1)).foldl put (put (asg (T.take (k + j))) T[k + j]) := by
      have e1 : T = T.take (k + j) ++ T[k + j] :: T.drop (k + j + 1) := by rw [← List.drop_eq_getElem_cons hj, List.take_append_drop]
      have e2 := asg_append (T.take (k + j)) (T[k + j] :: T.drop (k + j + 1))
      rw [← e1, ← h.val] at e2
      exact e2
    have hle : ∀ (R : List Int) (b : As), (∀ i (hi : i < R.length), lv ((R.take i).foldl put b) R[i] = none) → le b (R.foldl put b) := by
      intro R
      induction R with
      | nil => intro b _; exact le.refl b
      | cons l R ih =>
        intro b hb
        refine (le_put (hb 0 (by simp))).trans (ih (put b l) fun i hi => ?_)
        exact hb (i + 1) (by simpa using hi)
    have := hle (T.drop (k + j + 1)) (put (asg (T.take (k + j))) T[k + j]) fun i hi => by
      rw [List.length_drop] at hi
      have h2 := h.new (k + j + 1 + i) (by omega)
      have e3 : ((T.drop (k + j + 1)).take i).foldl put (put (asg (T.take (k + j))) T[k + j]) = asg (T.take (k + j + 1 + i)) := by
        rw [show T.take (k + j + 1 + i) = T.take (k + j + 1) ++ (T.drop (k + j + 1)).take i from List.take_add, asg_append, show T.take (k + j + 1) = T.take (k + j) ++ [T[k + j]] by rw [List.take_add_one, List.getElem?_eq_getElem hj, Option.toList_some], asg_append]; rfl
      rw [e3, List.getElem_drop]; exact h2
    rw [e]
    exact this.lv (lv_put hl.1)
  rw [lv_abs] at hV ⊢
  rw [unputs_get, if_neg hnot]
  exact hV
theorem Inv.next {V : As} {T : List Int} {k j : Nat} (hj : k + j < T.length) : unputs V ((T.drop k).take (j + 1)) = unput (unputs V ((T.drop k).take j)) T[k + j] := by
  rw [List.take_add_one, List.getElem?_drop, List.getElem?_eq_getElem hj, Option.toList_some]
  simp [unputs]
end Go.Z.Sat
/- Chapter 37: literals taken back. Conditions: none. -/
namespace Go.Proofs.YtopgbgnmjogeeaaDoor
set_option maxRecDepth 8000
set_option linter.unusedVariables false
set_option linter.unusedSimpArgs false
set_option linter.unusedSectionVars false
open Go Go.Z Go.Z.Sat

theorem sundo_ok {ρ : Nat → Obj → Prop} {s : Nat} {p : Sp} {F : Fm} (hO : Ok p.n F) (hm : p.m = F.length) (hU : RSl2 ρ p.ua (usesV p.n F)) {a V : As} {T : List Int} {d : Nat} (hI : Inv p.n F a V T) (k : Nat) (hk : k < T.length) :
    Con Tryd.prog ρ 43 #[.pointer (some ⟨s, 0, none⟩), .int .i64 k] [Sv s p V T (trues F V) d] (fun v H => v = .tuple #[] ∧ H = [Sv s p (asg (T.take k)) (T.take k) (trues F (asg (T.take k))) k]) := by
  have hlen := hO.len
  have hvars := hO.vars
  obtain ⟨bu, ou, ku, Tu, fu, u1, u2, u3⟩ := usesV_at hU
  have hTn : T.length ≤ p.n := by have := hI.cnt; omega
  refine con_intro Tryd.func43 Tryd.call43 rfl Tryd.ntmps43 rfl (L := [(0, _), (1, _)]) rfl fun w hh => ?_
  refine g_open .here ?_
  rintro _ ⟨va, vc, ta, tc, xa, xc, rfl⟩
  refine g_own (.there .here) (fun _ h _ _ => absurd h (by omega)) ?_
  rintro gv curv0 rfl v1 v2 v3 v4 v5
  refine g_fold (k := p.n + 1) (cap := vc) (size := 1) .here v1 v2 v3 v4 ?_
  refine g_own (a1 := ta) (.there (.there .here)) (fun _ h _ _ => absurd h (by omega)) ?_
  rintro gt curt rfl q1 q2 q3 q4 q5
  have had : 0 < T.length - (k : Int).toNat → (if tc = (k : Int).toNat then some (⟨gt, 0, none⟩ : Addr) else (some ⟨gt, 0, none⟩ : Option Addr).map (·.add ((k : Int).toNat * 1))) = some ⟨gt, k, none⟩ := fun hlt => by
    rw [if_neg (by omega)]
    simp only [Option.map_some, Int.toNat_natCast, Addr.add]
    split <;> simp_all
  refine g_seq ?_
  refine g_seq ?_
  refine g_region ?_
  refine g_pure (p_move rfl) rfl ?_
  refine g_pure (p_nilCheck rfl) rfl ?_
  refine g_pure (p_fieldAddr rfl) rfl ?_
  refine g_pure (p_load (by rfl) rfl (by first | (apply Has.own; (repeat' (first | exact Take.here | apply Take.there)); done) | exact Has.ro (by assumption)) (by first | rfl | assumption)) rfl ?_
  refine g_pure (p_move rfl) rfl ?_
  refine g_pure (p_slicel rfl rfl (by omega)) rfl ?_
  refine g_pure (p_len (by rfl) rfl) rfl ?_
  refine g_pure (p_move rfl) rfl ?_
  refine g_nil ?_
  refine g_qt ?_
  refine g_block ?_
  refine g_loop (fun j : Nat => [(0, .pointer (some ⟨s, 0, none⟩)), (1, .int .i64 k), (13, .slice (if tc = (k : Int).toNat then some (⟨gt, 0, none⟩ : Addr) else (some ⟨gt, 0, none⟩ : Option Addr).map (·.add ((k : Int).toNat * 1))) (T.length - (k : Int).toNat) (tc - (k : Int).toNat)), (14, .int .i64 (T.length - (k : Int).toNat : Nat)), (15, .int .i64 j)])
    (fun j => [Blk gt (.cells curt.toArray 3 (0, 0)), OwnSl 3 1 (some ⟨gv, 0, none⟩) (p.n + 1) vc (vcells p.n (unputs V ((T.drop k).take j))), Blk s (.cells [.int .i64 p.n, .slice p.ca p.m p.cc, .slice (some ⟨gv, 0, none⟩) (p.n + 1) vc, .slice (some ⟨gt, 0, none⟩) T.length tc, .slice p.ua (2 * p.n + 2) p.uc, .slice xa p.m xc, .int .i64 ((trues F (unputs V ((T.drop k).take j))).count 0 : Nat), .int .i64 d].toArray 83 (0, 0)),
      OwnSl 3 1 xa p.m xc ((trues F (unputs V ((T.drop k).take j))).map encN)]) (fun j => j ≤ T.length - k) (fun j => T.length - k - j) 0 (Nat.zero_le _) (by (repeat (first | exact trivial | refine ⟨by rfl, ?_⟩)); done) (by repeat' (first | exact Cover.nil | exact Take.here | apply Cover.cons | apply Take.there)) ?_
  intro j hj
  refine g_seq ?_
  refine g_region ?_
  refine g_pure (p_lss rfl rfl) rfl ?_
  refine g_nil ?_
  refine g_qt ?_
  refine g_seq ?_
  refine g_ifd rfl (fun q => ?_) (fun q => ?_)
  · have hjl : k + j < T.length := by omega
    have xt : curt[k + (j : Int).toNat * 1]? = some (encI T[k + j]) := own_at (k := k + j) q4 (by simp) (mapI _ hjl)
    have hl := hI.lits T[k + j] (List.getElem_mem hjl)
    have hW := hI.at hjl
    have hN := Inv.next (V := V) hjl
    generalize hlk : T[k + j] = l at *
    generalize hW1 : unputs V ((T.drop k).take j) = W1 at *
    obtain ⟨h0, hl1, hl2⟩ := id hl
    obtain ⟨ai, ci, w1, _, bi, oi, ki, Ti, fi, w2⟩ := u3 l hl
    have hrl := hO.rows (uix l)
    have htp := trues_put hO.lits h0 (lv_unput W1 l)
    rw [put_unput hW] at htp
    obtain ⟨us, hus⟩ : ∃ us, us = useRow F (uix l) := ⟨_, rfl⟩
    refine g_own (e := 3) (size := 1) (a1 := some ⟨gv, 0, none⟩) (k := p.n + 1) (.there .here) (fun h _ _ _ => by cases h) ?_
    rintro gv' curv hgv y1 y2 y3 y4 y5
    cases hgv
    refine g_skip ?_
    refine g_qt ?_
    refine g_seq ?_
    refine g_block ?_
    refine g_seq ?_
    refine g_region ?_
    refine g_pure (p_indexAddr rfl rfl (by omega) had) rfl ?_
    refine g_pure (p_load (by rfl) rfl (Has.own (by repeat' (first | exact Take.here | apply Take.there))) xt) rfl ?_
    refine g_pure (p_assign rfl) rfl ?_
    refine g_nil ?_
    refine g_qt ?_
    refine g_seq ?_
    refine g_region ?_
    refine g_pure (p_move rfl) rfl ?_
    refine g_pure (p_nilCheck rfl) rfl ?_
    refine g_pure (p_fieldAddr rfl) rfl ?_
    refine g_pure (p_load (by rfl) rfl (by first | (apply Has.own; (repeat' (first | exact Take.here | apply Take.there)); done) | exact Has.ro (by assumption)) (by first | rfl | assumption)) rfl ?_
    refine g_pure (p_move rfl) rfl ?_
    refine g_pure (p_move rfl) rfl ?_
    first | refine g_pure (p_negi rfl (by omega)) rfl ?_ | refine g_pure (p_neg rfl) rfl ?_
    refine g_pure (p_max rfl rfl) rfl ?_
    refine g_pure (p_indexAddr rfl rfl (by omega) (fun _ => rfl)) rfl ?_
    refine g_eff0 (e_store1 (by rfl) rfl rfl rfl (by repeat' (first | exact Take.here | apply Take.there)) (by simp; omega)) (fun _ _ => ?_)
    rintro rfl
    refine g_nil ?_
    refine g_qt ?_
    refine g_seq ?_
    refine m_begin0 (.fl 0 0 (.fl 1 0 (.fl 2 0 (.fl 3 1 (.fl 4 0 (.fl 9 0 (.ef 5 (.fl 6 0 (.fl 7 1 (.fl 8 0 .done)))))))))) (by kernel_rfl) (by kernel_rfl) ?_
    refine m_float0 rfl (fun _ _ => p_move rfl) rfl ?_
    refine m_float0 rfl (fun _ _ => p_nilCheck rfl) rfl ?_
    refine m_float0 rfl (fun _ _ => p_fieldAddr rfl) rfl ?_
    refine m_float rfl (p_load (by rfl) rfl (by first | (apply Has.own; (repeat' (first | exact Take.here | apply Take.there)); done) | exact Has.ro (by assumption)) (by first | rfl | assumption)) rfl ?_
    refine m_float0 rfl (fun _ _ => p_move rfl) rfl ?_
    refine m_float0 rfl (fun _ _ => p_move rfl) rfl ?_
    refine m_call (Hin := []) (Hr := ?hr1) (R := ?rr1) rfl wantedN rfl rfl rfl ?hin1 ?hc1 ?hk1
    case hin1 => repeat' (first | exact Cover.nil | exact Take.here | apply Cover.cons | apply Take.there)
    case hc1 => intro ρ' hρ hR; exact index_ok l (by omega)
    rintro _ _ ⟨rfl, rfl⟩
    refine ⟨.some (by repeat' (first | exact Cover.nil | exact Take.here | apply Cover.cons | apply Take.there)), ?_⟩
    refine m_float0 rfl (fun _ _ => p_indexAddr rfl rfl (by unfold uix; split <;> omega) (fun _ => u1)) rfl ?_
    refine m_float rfl (p_load (by rfl) rfl (Has.ro u2) w1) rfl ?_
    refine m_float0 rfl (fun _ _ => p_len (by rfl) rfl) rfl ?_
    refine m_nil ?_
    refine g_qt ?_
    refine g_block ?_
    have ho : 0 + (max l (-l)).toNat * 1 = l.natAbs := by omega
    refine g_fold (k := p.n + 1) (cap := vc) (size := 1) (g := gv) (xs := vcells p.n (unput W1 l)) (by repeat' (first | exact Take.here | apply Take.there)) y1 y2 (by simp; omega) (set_take y4 (by rw [← vcells_unput hl]; show List.set _ (0 + (max l (-l)).toNat * 1) _ = _; rw [ho])) ?_
    rw [← hus] at htp hrl w2 ⊢
    refine g_loop (fun i : Nat => [(0, .pointer (some ⟨s, 0, none⟩)), (1, .int .i64 k), (13, .slice (if tc = (k : Int).toNat then some (⟨gt, 0, none⟩ : Addr) else (some ⟨gt, 0, none⟩ : Option Addr).map (·.add ((k : Int).toNat * 1))) (T.length - (k : Int).toNat) (tc - (k : Int).toNat)), (14, .int .i64 (T.length - (k : Int).toNat : Nat)), (15, .int .i64 j), (35, .slice ai us.length ci), (36, .int .i64 us.length), (37, .int .i64 i)])
      (fun i => [Blk gt (.cells curt.toArray 3 (0, 0)), OwnSl 3 1 (some ⟨gv, 0, none⟩) (p.n + 1) vc (vcells p.n (unput W1 l)), Blk s (.cells [.int .i64 p.n, .slice p.ca p.m p.cc, .slice (some ⟨gv, 0, none⟩) (p.n + 1) vc, .slice (some ⟨gt, 0, none⟩) T.length tc, .slice p.ua (2 * p.n + 2) p.uc, .slice xa p.m xc, .int .i64 ((bump (trues F (unput W1 l)) (us.drop i)).count 0 : Nat), .int .i64 d].toArray 83 (0, 0)),
        OwnSl 3 1 xa p.m xc ((bump (trues F (unput W1 l)) (us.drop i)).map encN)]) (fun i => i ≤ us.length) (fun i => us.length - i) 0 (Nat.zero_le _) (by (repeat (first | exact trivial | refine ⟨by rfl, ?_⟩)); done) (by rw [List.drop_zero, htp]; exact (by repeat' (first | exact Cover.nil | exact Take.here | apply Cover.cons | apply Take.there))) ?_
    intro i hi0
    refine g_seq ?_
    refine g_region ?_
    refine g_pure (p_lss rfl rfl) rfl ?_
    refine g_nil ?_
    refine g_qt ?_
    refine g_seq ?_
    refine g_ifd rfl (fun r => ?_) (fun r => ?_)
    · have hil : i < us.length := by omega
      obtain ⟨hi, -⟩ := useRow_lt (F := F) (k := uix l) (i := us[i]) (by rw [← hus]; exact List.getElem_mem hil)
      obtain ⟨w3, w4, w5⟩ := w2 (by omega)
      have x2 : ki[oi + (i : Int).toNat * 1]? = some (encN us[i]) := flat2 w5 (i := i) (by simp [List.getElem?_eq_getElem hil]) (by simp)
      have etk : bump (trues F (unput W1 l)) (us.drop i) = bump1 (bump (trues F (unput W1 l)) (us.drop (i + 1))) us[i] := by
        rw [List.drop_eq_getElem_cons hil, bump_cons]
      have hYl : (bump (trues F (unput W1 l)) (us.drop (i + 1))).length = F.length := by rw [bump_len, trues_len]
      have hXl : (bump (trues F (unput W1 l)) (us.drop i)).length = F.length := by rw [bump_len, trues_len]
      have hXb : (bump (trues F (unput W1 l)) (us.drop i)).getD us[i] 0 ≤ F[us[i]].length := by
        have h1 := bump_get (us.drop i) (trues F (unput W1 l)) us[i] (by rw [trues_len]; exact hi)
        have h2 := bump_get us (trues F (unput W1 l)) us[i] (by rw [trues_len]; exact hi)
        have h3 := trues_le F W1 us[i] hi
        rw [← htp, h2] at h3
        have h4 : (us.drop i).count us[i] ≤ us.count us[i] := (List.drop_sublist i us).count_le _
        omega
      have hXm := hO.lens F[us[i]] (List.getElem_mem hi)
      have hcl : (bump (trues F (unput W1 l)) (us.drop i)).count 0 ≤ 1000000 := Nat.le_trans List.count_le_length (by rw [hXl]; exact hO.len)
      have hb1 := bump1_count (X := bump (trues F (unput W1 l)) (us.drop (i + 1))) (i := us[i]) (by rw [hYl]; exact hi)
      have hb2 := bump1_get (bump (trues F (unput W1 l)) (us.drop (i + 1))) us[i] us[i]
      rw [if_pos ⟨rfl, by rw [hYl]; exact hi⟩] at hb2
      rw [← etk] at hb1 hb2
      generalize hX : bump (trues F (unput W1 l)) (us.drop i) = X at *
      generalize hY : bump (trues F (unput W1 l)) (us.drop (i + 1)) = Y at *
      refine g_own (a1 := xa) (k := p.m) (.there (.there (.there .here))) (fun _ h _ _ => absurd h (by omega)) ?_
      rintro gx curx rfl z1 z2 z3 z4 z5
      have hget : X[us[i]]? = some (X.getD us[i] 0) := by rw [List.getD_eq_getElem?_getD, List.getElem?_eq_getElem (by rw [hXl]; exact hi)]; rfl
      have xx : curx[0 + ((us[i] : Nat) : Int).toNat * 1]? = some (encN (X.getD us[i] 0)) := own_at (k := us[i]) z4 (by simp) (by rw [List.getElem?_map, hget]; rfl)
      have hfin : (curx.set (0 + ((us[i] : Nat) : Int).toNat * 1) (.int .i64 ((X.getD us[i] 0 : Nat) - 1 : Int))).take (p.m * 1) = Y.map encN := by
        refine set_take z4 ?_
        have e3 : X.map encN = (Y.map encN).set us[i] (encN (Y.getD us[i] 0 + 1)) := by rw [etk]; unfold bump1; rw [List.map_set]
        have e4 : (0 + ((us[i] : Nat) : Int).toNat * 1) = us[i] := by simp
        have e2 : Y.getD us[i] 0 = Y[us[i]]'(by rw [hYl]; exact hi) := by rw [List.getD_eq_getElem?_getD, List.getElem?_eq_getElem (by rw [hYl]; exact hi)]; rfl
        rw [hb2, e3, e4, List.set_set]
        refine List.ext_getElem? fun q => ?_
        rw [List.getElem?_set]
        by_cases hq : us[i] = q
        · rw [if_pos hq, if_pos (by simp; omega), ← hq, List.getElem?_map, List.getElem?_eq_getElem (by rw [hYl]; exact hi), e2]
          simp [encN]
        · rw [if_neg hq]
      generalize hx0 : X.getD us[i] 0 = x0 at *
      generalize hy0 : Y.getD us[i] 0 = y0 at *
      have xy : (curx.set (0 + ((us[i] : Nat) : Int).toNat * 1) (.int .i64 ((x0 : Nat) - 1 : Int)))[0 + ((us[i] : Nat) : Int).toNat * 1]? = some (.int .i64 ((x0 : Nat) - 1 : Int)) := by
        rw [List.getElem?_set_self (List.getElem?_eq_some_iff.1 xx).1]
      refine g_skip ?_
      refine g_qt ?_
      refine g_seq ?_
      refine g_block ?_
      refine g_seq ?_
      refine g_region ?_
      refine g_pure (p_indexAddr rfl rfl (by omega) (fun _ => w3)) rfl ?_
      refine g_pure (p_load (by rfl) rfl (Has.ro w4) x2) rfl ?_
      refine g_pure (p_assign rfl) rfl ?_
      refine g_nil ?_
      refine g_qt ?_
      refine g_seq ?_
      refine g_region ?_
      refine g_pure (p_move rfl) rfl ?_
      refine g_pure (p_nilCheck rfl) rfl ?_
      refine g_pure (p_fieldAddr rfl) rfl ?_
      refine g_pure (p_load (by rfl) rfl (by first | (apply Has.own; (repeat' (first | exact Take.here | apply Take.there)); done) | exact Has.ro (by assumption)) (by first | rfl | assumption)) rfl ?_
      refine g_pure (p_move rfl) rfl ?_
      refine g_pure (p_indexAddr rfl rfl (by omega) (fun _ => rfl)) rfl ?_
      refine g_pure (p_load (by rfl) rfl (Has.own (by repeat' (first | exact Take.here | apply Take.there))) xx) rfl ?_
      first | refine g_pure (p_subi rfl rfl (by omega)) rfl ?_ | refine g_pure (p_sub rfl rfl) rfl ?_
      refine g_pure (p_indexAddr rfl rfl (by omega) (fun _ => rfl)) rfl ?_
      refine g_eff0 (e_store1 (by rfl) rfl rfl rfl (by repeat' (first | exact Take.here | apply Take.there)) (by simp; omega)) (fun _ _ => ?_)
      rintro rfl
      refine g_nil ?_
      refine g_qt ?_
      refine g_seq ?_
      refine g_region ?_
      refine g_pure (p_move rfl) rfl ?_
      refine g_pure (p_nilCheck rfl) rfl ?_
      refine g_pure (p_fieldAddr rfl) rfl ?_
      refine g_pure (p_load (by rfl) rfl (by first | (apply Has.own; (repeat' (first | exact Take.here | apply Take.there)); done) | exact Has.ro (by assumption)) (by first | rfl | assumption)) rfl ?_
      refine g_pure (p_move rfl) rfl ?_
      refine g_pure (p_indexAddr rfl rfl (by omega) (fun _ => rfl)) rfl ?_
      refine g_pure (p_load (by rfl) rfl (Has.own (by repeat' (first | exact Take.here | apply Take.there))) xy) rfl ?_
      refine g_pure (p_eql rfl rfl) rfl ?_
      refine g_nil ?_
      refine g_qt ?_
      refine g_ifd rfl (fun r0 => ?_) (fun r0 => ?_)
      · refine g_region ?_
        refine g_pure (p_move rfl) rfl ?_
        refine g_pure (p_nilCheck rfl) rfl ?_
        refine g_pure (p_fieldAddr rfl) rfl ?_
        refine g_pure (p_load (by rfl) rfl (by first | (apply Has.own; (repeat' (first | exact Take.here | apply Take.there)); done) | exact Has.ro (by assumption)) (by first | rfl | assumption)) rfl ?_
        first | refine g_pure (p_addi rfl rfl (by omega)) rfl ?_ | refine g_pure (p_add rfl rfl) rfl ?_
        refine g_pure (p_nilCheck rfl) rfl ?_
        refine g_pure (p_fieldAddr rfl) rfl ?_
        first | refine g_eff0 (e_storeO rfl rfl (by rfl) (by rfl) (by rfl) (by repeat' (first | exact Take.here | apply Take.there)) (by rfl)) (fun _ _ => ?_) | refine g_eff0 (e_store1 (by rfl) rfl rfl rfl (by repeat' (first | exact Take.here | apply Take.there)) (by first | decide | (simp <;> omega) | omega)) (fun _ _ => ?_)
        rintro rfl
        refine g_nil ?_
        refine g_qb ?_
        refine g_qt ?_
        refine g_region ?_
        first | refine g_pure (p_addi rfl rfl (by omega)) rfl ?_ | refine g_pure (p_add rfl rfl) rfl ?_
        refine g_pure (p_move rfl) rfl ?_
        refine g_nil ?_
        refine g_qn ?_
        rw [if_pos (by omega)] at hb1
        have ec : ((X.count 0 : Nat) : Int) + 1 = ((Y.count 0 : Nat) : Int) := by omega
        rw [ec]
        refine g_fold (k := p.m) (cap := xc) (size := 1) (g := gx) (xs := Y.map encN) (by repeat' (first | exact Take.here | apply Take.there)) z1 z2 (by simp; omega) hfin ?_
        subst hY
        exact g_next (i + 1) (by (repeat (first | exact trivial | refine ⟨by rfl, ?_⟩)); done) (by repeat' (first | exact Cover.nil | exact Take.here | apply Cover.cons | apply Take.there)) (by omega) (by omega)
      · refine g_skip ?_
        refine g_qb ?_
        refine g_qt ?_
        refine g_region ?_
        first | refine g_pure (p_addi rfl rfl (by omega)) rfl ?_ | refine g_pure (p_add rfl rfl) rfl ?_
        refine g_pure (p_move rfl) rfl ?_
        refine g_nil ?_
        refine g_qn ?_
        rw [if_neg (by omega)] at hb1
        have ec : X.count 0 = Y.count 0 := by omega
        rw [ec]
        refine g_fold (k := p.m) (cap := xc) (size := 1) (g := gx) (xs := Y.map encN) (by repeat' (first | exact Take.here | apply Take.there)) z1 z2 (by simp; omega) hfin ?_
        subst hY
        exact g_next (i + 1) (by (repeat (first | exact trivial | refine ⟨by rfl, ?_⟩)); done) (by repeat' (first | exact Cover.nil | exact Take.here | apply Cover.cons | apply Take.there)) (by omega) (by omega)
    · have hie : i = us.length := by omega
      subst hie
      rw [List.drop_length, show bump (trues F (unput W1 l)) [] = trues F (unput W1 l) from rfl, ← hN]
      refine g_exit ?_
      refine g_qt_exit ?_
      refine g_qn_exit ?_
      refine g_qb_exit ?_
      refine g_qb ?_
      refine g_qt ?_
      refine g_region ?_
      first | refine g_pure (p_addi rfl rfl (by omega)) rfl ?_ | refine g_pure (p_add rfl rfl) rfl ?_
      refine g_pure (p_move rfl) rfl ?_
      refine g_nil ?_
      refine g_qn ?_
      exact g_next (j + 1) (by (repeat (first | exact trivial | refine ⟨by rfl, ?_⟩)); done) (by repeat' (first | exact Cover.nil | exact Take.here | apply Cover.cons | apply Take.there)) (by omega) (by omega)
  · have hje : j = T.length - k := by omega
    have hW : unputs V ((T.drop k).take j) = asg (T.take k) := by
      rw [List.take_of_length_le (by rw [List.length_drop]; omega)]; exact hI.cut (by omega)
    rw [hW]
    refine g_fold (k := T.length) (cap := tc) (size := 1) (g := gt) (xs := T.map encI) .here q1 q2 q3 q4 ?_
    refine g_weak .here (own_shrink (m := k) (by omega)) ?_
    refine g_exit ?_
    refine g_qt_exit ?_
    refine g_qn_exit ?_
    refine g_qb_exit ?_
    refine g_qt ?_
    refine g_seq ?_
    refine g_region ?_
    refine g_pure (p_move rfl) rfl ?_
    refine g_pure (p_move rfl) rfl ?_
    refine g_pure (p_nilCheck rfl) rfl ?_
    refine g_pure (p_fieldAddr rfl) rfl ?_
    refine g_pure (p_load (by rfl) rfl (by first | (apply Has.own; (repeat' (first | exact Take.here | apply Take.there)); done) | exact Has.ro (by assumption)) (by first | rfl | assumption)) rfl ?_
    refine g_pure (p_move rfl) rfl ?_
    refine g_pure (p_sliceh rfl rfl (by omega)) rfl ?_
    refine g_pure (p_nilCheck rfl) rfl ?_
    refine g_pure (p_fieldAddr rfl) rfl ?_
    first | refine g_eff0 (e_storeO rfl rfl (by rfl) (by rfl) (by rfl) (by repeat' (first | exact Take.here | apply Take.there)) (by rfl)) (fun _ _ => ?_) | refine g_eff0 (e_store1 (by rfl) rfl rfl rfl (by repeat' (first | exact Take.here | apply Take.there)) (by first | decide | (simp <;> omega) | omega)) (fun _ _ => ?_)
    rintro rfl
    refine g_nil ?_
    refine g_qt ?_
    refine g_region ?_
    refine g_pure (p_move rfl) rfl ?_
    refine g_pure (p_move rfl) rfl ?_
    refine g_pure (p_nilCheck rfl) rfl ?_
    refine g_pure (p_fieldAddr rfl) rfl ?_
    first | refine g_eff0 (e_storeO rfl rfl (by rfl) (by rfl) (by rfl) (by repeat' (first | exact Take.here | apply Take.there)) (by rfl)) (fun _ _ => ?_) | refine g_eff0 (e_store1 (by rfl) rfl rfl rfl (by repeat' (first | exact Take.here | apply Take.there)) (by first | decide | (simp <;> omega) | omega)) (fun _ _ => ?_)
    rintro rfl
    refine g_nil ?_
    refine sv_close (V := asg (T.take k)) (T := T.take k) (X := trues F (asg (T.take k))) (d := k) (by repeat' (first | exact Cover.nil | exact Take.here | apply Cover.cons | apply Take.there)) (by simp; omega) rfl rfl rfl (by simp) rfl ?_
    exact g_postn (rs := []) rfl .nil ⟨rfl, rfl⟩ (by repeat' (first | exact Cover.nil | exact Take.here | apply Cover.cons | apply Take.there))
end Go.Proofs.YtopgbgnmjogeeaaDoor
/- Chapter 37: the model. Conditions: none. -/
namespace Go.Z.Sat
set_option maxRecDepth 8000
set_option linter.unusedVariables false
set_option linter.unusedSimpArgs false
set_option linter.unusedSectionVars false
open Go Go.Z
def mcells (n : Nat) (V : As) : List Value := (List.range n).map fun i => .bool (decide (V (i + 1) ≠ some false))
theorem mcells_len (n : Nat) (V : As) : (mcells n V).length = n := by simp [mcells]
theorem fill_step {l : List Value} {z v : Value} {n k : Nat} (hl : l.length = n) (hk : k < n) (hv : l[k]? = some v) : (l.take k ++ List.replicate (n - k) z).set k v = l.take (k + 1) ++ List.replicate (n - (k + 1)) z := by
  have e1 : n - k = (n - (k + 1)) + 1 := by omega
  rw [List.set_append_right _ _ (by rw [List.length_take]; omega), List.length_take, Nat.min_eq_left (by omega : k ≤ l.length), Nat.sub_self, e1, List.replicate_succ, List.set_cons_zero, List.take_add_one, hv]
  simp
end Go.Z.Sat
namespace Go.Proofs.YtopgbgnmjogeeaaDoor
set_option maxRecDepth 8000
set_option linter.unusedVariables false
set_option linter.unusedSimpArgs false
set_option linter.unusedSectionVars false
open Go Go.Z Go.Z.Sat

theorem model_ok {ρ : Nat → Obj → Prop} {s : Nat} {p : Sp} {V : As} {T : List Int} {X : List Nat} {d : Nat} (hn : p.n ≤ 262144) (hs : Ro ρ (Sv s p V T X d)) :
    Con Tryd.prog ρ 44 #[.pointer (some ⟨s, 0, none⟩)] [] (fun v H => ∃ a, v = .slice a p.n p.n ∧ H = [OwnSl 4 1 a p.n p.n (mcells p.n V)]) := by
  obtain ⟨va, vc, ta, tc, xa, xc, hp, ⟨_, bv, ov, kv, Tv, fv, hv⟩, _, _⟩ := sv_ro hs
  obtain ⟨v1, v2, v3⟩ := hv (by omega)
  refine con_intro Tryd.func44 Tryd.call44 rfl Tryd.ntmps44 rfl (L := [(0, _)]) rfl fun w hh => ?_
  refine g_seq ?_
  refine g_region ?_
  refine g_pure (p_assign rfl) rfl ?_
  refine g_nil ?_
  refine g_qt ?_
  refine g_seq ?_
  refine g_region ?_
  refine g_pure (p_move rfl) rfl ?_
  refine g_pure (p_nilCheck rfl) rfl ?_
  refine g_pure (p_fieldAddr rfl) rfl ?_
  refine g_pure (p_fieldAddr rfl) rfl ?_
  refine g_pure (p_load (by rfl) rfl (by first | (apply Has.own; (repeat' (first | exact Take.here | apply Take.there)); done) | exact Has.ro (by assumption)) (by first | rfl | assumption)) rfl ?_
  refine g_eff (e_make (by rfl) (by rfl) rfl rfl (by omega) (by dsimp only; omega) (by omega)) rfl (fun _ _ => ?_)
  rintro ⟨b10, rfl, rfl⟩
  refine g_pure (p_assign rfl) rfl ?_
  refine g_nil ?_
  refine g_qt ?_
  refine g_seq ?_
  refine g_seq ?_
  refine g_region ?_
  refine g_pure (p_move rfl) rfl ?_
  refine g_pure (p_len (by rfl) rfl) rfl ?_
  refine g_pure (p_move rfl) rfl ?_
  refine g_nil ?_
  refine g_qt ?_
  refine g_block ?_
  have e0 : ((p.n : Int)).toNat = p.n := by omega
  rw [e0]
  refine g_loop (fun k : Nat => [(0, .pointer (some ⟨s, 0, none⟩)), (3, .slice (some ⟨b10, 0, none⟩) p.n p.n), (12, .int .i64 p.n), (13, .int .i64 k)])
    (fun k => [Blk b10 (.cells ((mcells p.n V).take k ++ List.replicate (p.n - k) (Value.bool false)).toArray 4 (0, 0))]) (fun k => k ≤ p.n) (fun k => p.n - k) 0 (Nat.zero_le _) (by (repeat (first | exact trivial | refine ⟨by rfl, ?_⟩)); done) (by repeat' (first | exact Cover.nil | exact Take.here | apply Cover.cons | apply Take.there)) ?_
  intro k hk
  refine g_seq ?_
  refine g_region ?_
  refine g_pure (p_lss rfl rfl) rfl ?_
  refine g_nil ?_
  refine g_qt ?_
  refine g_seq ?_
  refine g_ifd rfl (fun q => ?_) (fun q => ?_)
  · have x1 : kv[ov + ((k : Int) + 1).toNat * 1]? = some (.int .i64 (vcode (V (k + 1)))) := flat2 v3 (vcells_at V (i := k + 1) (by omega)) (by omega)
    refine g_skip ?_
    refine g_qt ?_
    refine g_seq ?_
    refine g_block ?_
    refine g_seq ?_
    refine g_region ?_
    refine g_pure (p_move rfl) rfl ?_
    refine g_pure (p_assign rfl) rfl ?_
    refine g_nil ?_
    refine g_qt ?_
    refine g_region ?_
    refine g_pure (p_move rfl) rfl ?_
    refine g_pure (p_move rfl) rfl ?_
    refine g_pure (p_move rfl) rfl ?_
    refine g_pure (p_nilCheck rfl) rfl ?_
    refine g_pure (p_fieldAddr rfl) rfl ?_
    refine g_pure (p_load (by rfl) rfl (by first | (apply Has.own; (repeat' (first | exact Take.here | apply Take.there)); done) | exact Has.ro (by assumption)) (by first | rfl | assumption)) rfl ?_
    refine g_pure (p_move rfl) rfl ?_
    first | refine g_pure (p_addi rfl rfl (by omega)) rfl ?_ | refine g_pure (p_add rfl rfl) rfl ?_
    refine g_pure (p_indexAddr rfl rfl (by omega) (fun _ => v1)) rfl ?_
    refine g_pure (p_load (by rfl) rfl (Has.ro v2) x1) rfl ?_
    refine g_pure (p_neq rfl rfl) rfl ?_
    refine g_pure (p_indexAddr rfl rfl (by omega) (fun _ => rfl)) rfl ?_
    refine g_eff0 (e_store1 (by rfl) rfl rfl rfl (by repeat' (first | exact Take.here | apply Take.there)) (by simp [mcells_len]; omega)) (fun _ _ => ?_)
    rintro rfl
    refine g_nil ?_
    refine g_qb ?_
    refine g_qt ?_
    refine g_region ?_
    first | refine g_pure (p_addi rfl rfl (by omega)) rfl ?_ | refine g_pure (p_add rfl rfl) rfl ?_
    refine g_pure (p_move rfl) rfl ?_
    refine g_nil ?_
    refine g_qn ?_
    have e1 : 0 + ((k : Int)).toNat * 1 = k := by omega
    have e2 : (!decide (vcode (V (k + 1)) = 2)) = decide (V (k + 1) ≠ some false) := by
      cases V (k + 1) with
      | none => rfl
      | some x => cases x <;> rfl
    have hset := fill_step (l := mcells p.n V) (z := .bool false) (mcells_len _ _) (show k < p.n by omega) (v := .bool (!decide (vcode (V (k + 1)) = 2))) (by rw [e2]; unfold mcells; rw [List.getElem?_map, List.getElem?_range (by omega)]; rfl)
    refine g_sat (H' := [Blk b10 (.cells ((mcells p.n V).take (k + 1) ++ List.replicate (p.n - (k + 1)) (Value.bool false)).toArray 4 (0, 0))]) (fun h hs => ?_) ?_
    · rw [← hset]
      have hs' : Sat [Blk b10 (.cells (((mcells p.n V).take k ++ List.replicate (p.n - k) (Value.bool false)).set (0 + ((k : Int)).toNat * 1) (.bool (!decide (vcode (V (k + 1)) = 2)))).toArray 4 (0, 0))] h := hs
      rw [e1] at hs'; exact hs'
    exact g_next (k + 1) (by (repeat (first | exact trivial | refine ⟨by rfl, ?_⟩)); done) (by repeat' (first | exact Cover.nil | exact Take.here | apply Cover.cons | apply Take.there)) (by omega) (by omega)
  · have hke : k = p.n := by omega
    subst hke
    refine g_exit ?_
    refine g_qt_exit ?_
    refine g_qn_exit ?_
    refine g_qb_exit ?_
    refine g_qt ?_
    refine g_seq ?_
    refine g_region ?_
    refine g_pure (p_move rfl) rfl ?_
    refine g_pure (p_assign rfl) rfl ?_
    refine g_nil ?_
    refine g_qt ?_
    refine g_ret ?_
    rw [Nat.sub_self, List.replicate_zero, List.append_nil, List.take_of_length_le (by rw [mcells_len]; omega)]
    refine g_fold (k := p.n) (cap := p.n) (size := 1) (xs := mcells p.n V) .here (Nat.le_refl _) (by omega) (by rw [mcells_len]; omega) (List.take_of_length_le (by rw [mcells_len]; omega)) ?_
    exact g_post (rs := [.tmp 2]) rfl (.tmp rfl .nil) ⟨_, rfl, rfl⟩ (by repeat' (first | exact Cover.nil | exact Take.here | apply Cover.cons | apply Take.there))
end Go.Proofs.YtopgbgnmjogeeaaDoor
/- Chapter 37: the stack of decisions, plain. Conditions: none. -/
namespace Go.Z.Sat
set_option maxRecDepth 8000
set_option linter.unusedVariables false
set_option linter.unusedSimpArgs false
set_option linter.unusedSectionVars false
open Go Go.Z

/-- a decision: variable, how many literals came ahead of it, reversed -/
abbrev De := Nat × Nat × Bool
def encD (e : De) : List Value := [.int .i64 e.1, .int .i64 e.2.1, .bool e.2.2]
theorem encD_len (e : De) : (encD e).length = 3 := rfl
def lvls (T : List Int) (D : List De) : List (Nat × As) := ((D.filter fun e => !e.2.2).map fun e => (e.1, asg (T.take e.2.1))).reverse
structure Stk (n : Nat) (F : Fm) (T : List Int) (D : List De) : Prop where
  inc : D.Pairwise fun x y => x.2.1 < y.2.1
  each : ∀ e ∈ D, e.2.1 < T.length ∧ Least n (asg (T.take e.2.1)) e.1 ∧ Fix F (asg (T.take e.2.1))
structure TI (n : Nat) (V : As) (T : List Int) : Prop where
  cnt : T.length + cnt n V = n
  lits : ∀ l ∈ T, okL n l
  val : V = asg T
  new : ∀ i (h : i < T.length), lv (asg (T.take i)) T[i] = none
theorem Inv.ti {n : Nat} {F : Fm} {a V : As} {T : List Int} (h : Inv n F a V T) : TI n V T := ⟨h.cnt, h.lits, h.val, h.new⟩
theorem TI.inv {n : Nat} {F : Fm} {V : As} {T : List Int} (h : TI n V T) : Inv n F V V T := ⟨Snd.refl F V, h.cnt, h.lits, h.val, h.new⟩
theorem cnt_none (n : Nat) : cnt n (fun _ => none) = n := by
  unfold Sat.cnt
  rw [show (List.range n).filter (fun i => ((fun _ => none : As) (i + 1)).isNone) = List.range n from List.filter_eq_self.2 (fun _ _ => rfl), List.length_range]
theorem TI.nil (n : Nat) : TI n (fun _ => none) [] := ⟨by rw [cnt_none]; simp, fun l h => absurd h List.not_mem_nil, rfl, fun i h => absurd h (Nat.not_lt_zero i)⟩
theorem TI.set {n : Nat} {V : As} {T : List Int} (h : TI n V T) {l : Int} (hl : okL n l) (hn : lv V l = none) : TI n (put V l) (T ++ [l]) := by
  refine ⟨?_, ?_, by rw [h.val]; simp [asg], ?_⟩
  · have := cnt_put hl hn
    have := h.cnt
    simp; omega
  · intro x hx
    rcases List.mem_append.1 hx with hx | hx
    · exact h.lits x hx
    · rw [List.mem_singleton.1 hx]; exact hl
  · intro i hi
    by_cases e : i < T.length
    · rw [List.getElem_append_left e, List.take_append_of_le_length (by omega)]; exact h.new i e
    · have : i = T.length := by simp at hi; omega
      subst this
      rw [List.take_left', List.getElem_append_right (Nat.le_refl _)]
      · simp; rw [← h.val]; exact hn
      · rfl
theorem TI.cut {n : Nat} {V : As} {T : List Int} (h : TI n V T) : ∀ {k : Nat}, k ≤ T.length → TI n (asg (T.take k)) (T.take k)
  | 0, _ => by rw [List.take_zero]; exact TI.nil n
  | k + 1, hk => by
    have ih := h.cut (k := k) (by omega)
    have := ih.set (h.lits _ (List.getElem_mem (show k < T.length by omega))) (h.new k (by omega))
    rw [List.take_add_one, List.getElem?_eq_getElem (show k < T.length by omega), Option.toList_some, asg_append]
    exact this

theorem take_pre {T T' : List Int} (h : T <+: T') {k : Nat} (hk : k ≤ T.length) : T'.take k = T.take k := by
  obtain ⟨R, rfl⟩ := h
  rw [List.take_append_of_le_length hk]
theorem lvls_congr {T T' : List Int} {D : List De} (h : ∀ e ∈ D, T'.take e.2.1 = T.take e.2.1) : lvls T' D = lvls T D := by
  unfold lvls
  congr 1
  refine List.map_congr_left fun e he => ?_
  rw [h e (List.mem_filter.1 he).1]
theorem Stk.grow {n : Nat} {F : Fm} {T T' : List Int} {D : List De} (h : Stk n F T D) (hp : T <+: T') : Stk n F T' D ∧ lvls T' D = lvls T D := by
  have e : ∀ e ∈ D, T'.take e.2.1 = T.take e.2.1 := fun e he => take_pre hp (Nat.le_of_lt (h.each e he).1)
  refine ⟨⟨h.inc, fun x hx => ?_⟩, lvls_congr e⟩
  rw [e x hx]
  exact ⟨Nat.lt_of_lt_of_le (h.each x hx).1 hp.length_le, (h.each x hx).2⟩
theorem lvls_snoc (T : List Int) (D : List De) (v b : Nat) (r : Bool) : lvls T (D ++ [(v, b, r)]) = if r then lvls T D else (v, asg (T.take b)) :: lvls T D := by
  unfold lvls
  rw [List.filter_append]
  cases r <;> simp
theorem Stk.cut {n : Nat} {F : Fm} {T : List Int} {D : List De} {v b : Nat} {r : Bool} (h : Stk n F T (D ++ [(v, b, r)])) (l : Int) : Stk n F (T.take b ++ [l]) (D ++ [(v, b, true)]) ∧ lvls (T.take b ++ [l]) (D ++ [(v, b, true)]) = lvls T D := by
  have hb := (h.each (v, b, r) (by simp)).1
  dsimp only at hb
  have hlt : ∀ e ∈ D, e.2.1 < b := fun e he => (List.pairwise_append.1 h.inc).2.2 e he (v, b, r) (by simp)
  have htk : ∀ k, k ≤ b → (T.take b ++ [l]).take k = T.take k := fun k hk => by
    rw [List.take_append_of_le_length (by rw [List.length_take]; omega), List.take_take, Nat.min_eq_left hk]
  refine ⟨⟨?_, fun e he => ?_⟩, ?_⟩
  · have := List.pairwise_append.1 h.inc
    refine List.pairwise_append.2 ⟨this.1, by simp, fun x hx y hy => ?_⟩
    rw [List.mem_singleton.1 hy]; exact hlt x hx
  · rw [List.length_append, List.length_take]
    rcases List.mem_append.1 he with he | he
    · have h1 := hlt e he
      rw [htk _ (by omega)]
      exact ⟨by simp; omega, (h.each e (List.mem_append_left _ he)).2⟩
    · rw [List.mem_singleton.1 he]
      dsimp only
      rw [htk _ (Nat.le_refl _)]
      exact ⟨by simp; omega, (h.each (v, b, r) (by simp)).2⟩
  · rw [lvls_snoc, if_pos rfl]
    exact lvls_congr fun e he => htk _ (by have := hlt e he; omega)
theorem Stk.init {n : Nat} {F : Fm} {T : List Int} {D E : List De} (h : Stk n F T (D ++ E)) : Stk n F T D := ⟨(List.pairwise_append.1 h.inc).1, fun e he => h.each e (by simp [he])⟩
theorem Stk.push {n : Nat} {F : Fm} {T : List Int} {D : List De} (h : Stk n F T D) {v : Nat} (hv : Least n (asg T) v) (hf : Fix F (asg T)) (l : Int) : Stk n F (T ++ [l]) (D ++ [(v, T.length, false)]) ∧ lvls (T ++ [l]) (D ++ [(v, T.length, false)]) = (v, asg T) :: lvls T D := by
  have hg := h.grow (T' := T ++ [l]) (List.prefix_append _ _)
  have ht : (T ++ [l]).take T.length = T := by rw [List.take_left']; rfl
  refine ⟨⟨?_, fun e he => ?_⟩, ?_⟩
  · refine List.pairwise_append.2 ⟨h.inc, by simp, fun x hx y hy => ?_⟩
    rw [List.mem_singleton.1 hy]; exact (h.each x hx).1
  · rcases List.mem_append.1 he with he | he
    · exact hg.1.each e he
    · rw [List.mem_singleton.1 he]
      dsimp only
      rw [ht]
      exact ⟨by simp, hv, hf⟩
  · rw [lvls_snoc, if_neg (by simp), ht, hg.2]
theorem inc_len : ∀ (D : List De) (k m : Nat), (∀ e ∈ D, k ≤ e.2.1 ∧ e.2.1 < m) → D.Pairwise (fun x y => x.2.1 < y.2.1) → D = [] ∨ D.length + k ≤ m
  | [], _, _, _, _ => .inl rfl
  | e :: D, k, m, h, hp => by
    right
    have h1 := h e (by simp)
    rcases inc_len D (e.2.1 + 1) m (fun x hx => ⟨List.rel_of_pairwise_cons hp hx, (h x (by simp [hx])).2⟩) (List.Pairwise.of_cons hp) with rfl | h2
    · simp; omega
    · rw [List.length_cons]; omega
theorem Stk.len {n : Nat} {F : Fm} {T : List Int} {D : List De} (h : Stk n F T D) : D.length ≤ T.length := by
  rcases inc_len D 0 T.length (fun e he => ⟨Nat.zero_le _, (h.each e he).1⟩) h.inc with rfl | h
  · simp
  · omega
theorem Stk.okS {n : Nat} {F : Fm} {T : List Int} {D : List De} (h : Stk n F T D) : okS n (lvls T D) := by
  intro p hp
  unfold lvls at hp
  obtain ⟨e, he, rfl⟩ := List.mem_map.1 (List.mem_reverse.1 hp)
  have := (h.each e (List.mem_filter.1 he).1).2.1
  exact ⟨this.1, this.2.1⟩
theorem lvls_drop {T : List Int} {D : List De} {j : Nat} (h : ∀ i (hi : i < D.length), j ≤ i → D[i].2.2 = true) : lvls T D = lvls T (D.take j) := by
  conv => lhs; rw [← List.take_append_drop j D]
  unfold lvls
  have e0 : (D.drop j).filter (fun e => !e.2.2) = [] := List.filter_eq_nil_iff.2 fun e he => by
    obtain ⟨i, hi, rfl⟩ := List.getElem_of_mem he
    rw [List.length_drop] at hi
    rw [List.getElem_drop, h (j + i) (by omega) (by omega)]; simp
  rw [List.filter_append, e0, List.append_nil]
theorem dcell {D : List De} {k : Nat} (hk : k < D.length) {j i : Nat} (hj : j < 3) (hi : i = k * 3 + j) : (D.flatMap encD)[i]? = (encD D[k])[j]? := by
  subst hi
  have := (rows_at encD 3 encD_len D k hk).1
  rw [← this, List.getElem?_take, if_pos hj, List.getElem?_drop]
theorem own_at3 {cur xs : List Value} {N i : Nat} {v : Value} (h : cur.take N = xs) (hv : xs[i]? = some v) : cur[i]? = some v := by
  rw [← h, List.getElem?_take] at hv
  split at hv
  · exact hv
  · cases hv
theorem dec_set {D : List De} {cur : List Value} {N k i : Nat} {v b : Nat} {r : Bool} (h : cur.take N = D.flatMap encD) (hk : k < D.length) (he : D[k] = (v, b, r)) (hi : i = k * 3 + 2) : (cur.set i (.bool true)).take ((k + 1) * 3) = (D.take k ++ [(v, b, true)]).flatMap encD := by
  subst hi
  have hl := rows_len encD 3 encD_len D
  have hNl := congrArg List.length h
  rw [List.length_take, hl] at hNl
  have hle : (k + 1) * 3 ≤ D.length * 3 := Nat.mul_le_mul_right 3 hk
  have e1 : cur.take ((k + 1) * 3) = (D.take (k + 1)).flatMap encD := by
    rw [← rows_take encD 3 encD_len D (k + 1) hk, ← h, List.take_take, Nat.min_eq_left (by omega)]
  rw [List.take_set, e1, List.take_add_one, List.getElem?_eq_getElem hk, Option.toList_some, List.flatMap_append, List.flatMap_append, he]
  have hl2 := rows_len encD 3 encD_len (D.take k)
  rw [List.length_take, Nat.min_eq_left (Nat.le_of_lt hk)] at hl2
  rw [List.set_append_right _ _ (by omega), hl2, show k * 3 + 2 - k * 3 = 2 by omega]
  rfl

theorem trues_sat (F : Fm) (V : As) : (trues F V).count 0 = 0 ↔ satF F V := by
  unfold trues satF
  rw [List.count_eq_zero, List.mem_map]
  constructor
  · intro h c hc
    have h1 : c.countP (fun l => decide (lv V l = some true)) ≠ 0 := fun e => h ⟨c, hc, e⟩
    obtain ⟨l, h2, h3⟩ := List.countP_pos_iff.1 (Nat.pos_of_ne_zero h1)
    exact ⟨l, h2, by simpa using h3⟩
  · rintro h ⟨c, hc, e⟩
    obtain ⟨l, h1, h2⟩ := h c hc
    have := List.countP_pos_iff (p := fun l => decide (lv V l = some true)).2 ⟨l, h1, by simpa using h2⟩
    omega
theorem lv_none {a : As} {l : Int} : lv a l = none ↔ a l.natAbs = none := by
  rw [lv_abs]
  split
  · exact Iff.rfl
  · cases a l.natAbs <;> simp
theorem Fix.open {n : Nat} {F : Fm} {V : As} (hF : okF n F) (h : Fix F V) (hs : ¬ satF F V) : ∃ v, 1 ≤ v ∧ v ≤ n ∧ V v = none := by
  by_cases hx : ∃ v, 1 ≤ v ∧ v ≤ n ∧ V v = none
  · exact hx
  · exfalso
    apply hs
    intro c hc
    rcases h c hc with h1 | ⟨l, h1, _, _, _, h2, _⟩
    · exact h1
    · have := hF c hc l h1
      exact absurd ⟨l.natAbs, by have := this.1; omega, by have := this.2; omega, lv_none.1 h2⟩ hx
theorem Fix.pend {n : Nat} {F : Fm} (hF : okF n F) {V : As} (h : Fix F V) {T : List Int} {l : Int} (hl : l ≠ 0) (hn : lv V l = none) : ∀ c ∈ F, Pend (put V l) (T ++ [l]) T.length c := fun c hc =>
  Pend.mono (.inl (h c hc)) (fun m hm => (hF c hc m hm).1) hl hn (Nat.le_refl _)

/-- results -/
def ocode : Out → Int
  | .unk => 0
  | .sat _ => 1
  | .uns => 2
def ocells (n : Nat) : Out → List Value
  | .sat b => mcells n b
  | _ => []
end Go.Z.Sat
/- Chapter 37: the steps of the search, plain. Conditions: none. -/
namespace Go.Z.Sat
set_option maxRecDepth 8000
set_option linter.unusedVariables false
set_option linter.unusedSimpArgs false
set_option linter.unusedSectionVars false
open Go Go.Z

structure SS where
  b : Bool
  a : As
  V : As
  T : List Int
  d : Nat
  D : List De
  k : Int
  v : Nat
  la : Option Addr
  lc : Nat
def SS.L (x : SS) : List (Nat × As) := lvls x.T x.D
structure SI (n : Nat) (F : Fm) (bud : Int) (x : SS) : Prop where
  inv : Inv n F x.a x.V x.T
  stk : Stk n F x.T x.D
  no : x.b = false → PR F x.a none
  yes : x.b = true → x.d = x.T.length ∧ PR F x.a (some x.V) ∧ ∀ u, 1 ≤ u → u < x.v → x.V u ≠ none
  v1 : 1 ≤ x.v ∧ x.v ≤ n + 1
  kk : 0 ≤ x.k ∧ x.k ≤ bud
  res : ∀ r, Reach F n bud x.a x.L x.k r → Reach F n bud (fun _ => none) [] 0 r
def SS.mu (n : Nat) (x : SS) : Nat := meas n x.a x.L

theorem le_ne {a b : As} (h : le a b) {u : Nat} (e : a u ≠ none) : b u ≠ none := by
  cases ha : a u with
  | none => exact absurd ha e
  | some y => rw [h u y ha]; simp
theorem lvls_at {T : List Int} {D : List De} {j : Nat} {v b : Nat} (hj : j < D.length) (he : D[j] = (v, b, false)) (hr : ∀ i (hi : i < D.length), j + 1 ≤ i → D[i].2.2 = true) : lvls T D = (v, asg (T.take b)) :: lvls T (D.take j) := by
  rw [lvls_drop hr, List.take_add_one, List.getElem?_eq_getElem hj, Option.toList_some, he, lvls_snoc, if_neg (by simp)]
theorem SI.back {n : Nat} {F : Fm} {bud : Int} {x : SS} (h : SI n F bud x) (hb : x.b = false) {j v b : Nat} (hj : j < x.D.length) (he : x.D[j] = (v, b, false)) (hr : ∀ i (hi : i < x.D.length), j + 1 ≤ i → x.D[i].2.2 = true)
    {V' : As} {T' : List Int} {d' : Nat} {b' : Bool} {la : Option Addr} {lc : Nat} (hI : Inv n F (put (asg (x.T.take b)) (-(v : Int))) V' T') (hp : (x.T.take b ++ [-(v : Int)]) <+: T') (hn : b' = false → PR F (put (asg (x.T.take b)) (-(v : Int))) none) (hy : b' = true → d' = T'.length ∧ PR F (put (asg (x.T.take b)) (-(v : Int))) (some V')) :
    SI n F bud ⟨b', put (asg (x.T.take b)) (-(v : Int)), V', T', d', x.D.take j ++ [(v, b, true)], x.k, v, la, lc⟩ ∧ SS.mu n ⟨b', put (asg (x.T.take b)) (-(v : Int)), V', T', d', x.D.take j ++ [(v, b, true)], x.k, v, la, lc⟩ < x.mu n := by
  have hs : Stk n F x.T (x.D.take j ++ [(v, b, false)]) := by
    have e : x.D = (x.D.take j ++ [(v, b, false)]) ++ x.D.drop (j + 1) := by
      rw [List.append_assoc, List.singleton_append, ← he, ← List.drop_eq_getElem_cons hj, List.take_append_drop]
    have := h.stk
    rw [e] at this
    exact this.init
  obtain ⟨hc1, hc2⟩ := hs.cut (-(v : Int))
  obtain ⟨hg1, hg2⟩ := hc1.grow hp
  have hlv := lvls_at (T := x.T) hj he hr
  obtain ⟨_, hle, _⟩ := hs.each (v, b, false) (by simp)
  dsimp only at hle
  have hneg : lv (asg (x.T.take b)) (-(v : Int)) = none := by rw [lv_negv, hle.2.1]; rfl
  have hres : ∀ r, Reach F n bud (put (asg (x.T.take b)) (-(v : Int))) (lvls x.T (x.D.take j)) x.k r → Reach F n bud (fun _ => none) [] 0 r := fun r hr => h.res r (by unfold SS.L; rw [hlv]; exact .back (h.no hb) hr)
  refine ⟨⟨hI, hg1, hn, fun hb => ⟨(hy hb).1, (hy hb).2, fun u h1 h2 => le_ne (hI.snd.1) (le_ne (le_put hneg) (hle.2.2 u h1 h2))⟩, ⟨hle.1.1, by have := hle.1.2; dsimp only; omega⟩, h.kk, fun r hr => hres r ?_⟩, ?_⟩
  · unfold SS.L at hr
    dsimp only at hr
    rw [hg2, hc2] at hr
    exact hr
  · unfold SS.mu SS.L
    dsimp only
    rw [hg2, hc2, hlv]
    have := h.stk.okS
    rw [hlv] at this
    exact meas_back this
theorem SI.dec {n : Nat} {F : Fm} {bud : Int} {x : SS} (h : SI n F bud x) (hb : x.b = true) (hs : ¬ satF F x.V) (hk : x.k ≠ bud) {v : Nat} (hv : Least n x.V v)
    {V' : As} {T' : List Int} {d' : Nat} {b' : Bool} {la : Option Addr} {lc : Nat} (hI : Inv n F (put x.V (v : Int)) V' T') (hp : (x.T ++ [(v : Int)]) <+: T') (hn : b' = false → PR F (put x.V (v : Int)) none) (hy : b' = true → d' = T'.length ∧ PR F (put x.V (v : Int)) (some V')) :
    SI n F bud ⟨b', put x.V (v : Int), V', T', d', x.D ++ [(v, x.T.length, false)], x.k + 1, v, la, lc⟩ ∧ SS.mu n ⟨b', put x.V (v : Int), V', T', d', x.D ++ [(v, x.T.length, false)], x.k + 1, v, la, lc⟩ < x.mu n := by
  obtain ⟨hd, hpr, _⟩ := h.yes hb
  have hval := h.inv.val
  obtain ⟨hc1, hc2⟩ := h.stk.push (v := v) (by rw [← hval]; exact hv) (by rw [← hval]; exact hpr.2.2) (v : Int)
  obtain ⟨hg1, hg2⟩ := hc1.grow hp
  have hpos : lv x.V (v : Int) = none := by rw [lv_pos _ hv.1.1]; exact hv.2.1
  have hkk := h.kk
  refine ⟨⟨hI, hg1, hn, fun hb => ⟨(hy hb).1, (hy hb).2, fun u h1 h2 => le_ne (hI.snd.1) (le_ne (le_put hpos) (hv.2.2 u h1 h2))⟩, ⟨hv.1.1, by have := hv.1.2; dsimp only; omega⟩, ⟨by dsimp only; omega, by dsimp only; omega⟩, fun r hr => h.res r ?_⟩, ?_⟩
  · unfold SS.L at hr
    dsimp only at hr
    rw [hg2, hc2, ← hval] at hr
    exact .dec hpr hs hk hv hr
  · unfold SS.mu SS.L
    dsimp only
    rw [hg2, hc2, ← hval]
    exact meas_dec hpr.1 hv
end Go.Z.Sat
namespace Go.Proofs.YtopgbgnmjogeeaaDoor
set_option maxRecDepth 8000
set_option linter.unusedVariables false
set_option linter.unusedSimpArgs false
set_option linter.unusedSectionVars false
open Go Go.Z Go.Z.Sat
theorem prop_at {ρ : Nat → Obj → Prop} {s : Nat} {p : Sp} {F : Fm} (hO : Ok p.n F) (hm : p.m = F.length) (hU : RSl2 ρ p.ua (usesV p.n F)) (hF : FmR ρ p.ca F) {a V : As} {T : List Int} {d : Nat} (hI : Inv p.n F a V T) (hd : d ≤ T.length) (hP : ∀ c ∈ F, Pend V T d c) :
    Con Tryd.prog ρ 35 #[.pointer (some ⟨s, 0, none⟩)] [Sv s p V T (trues F V) d] (fun v H => ∃ b V' T' d', v = .bool b ∧ H = [Sv s p V' T' (trues F V') d'] ∧ Inv p.n F a V' T' ∧ T <+: T' ∧ (b = false → PR F a none) ∧ (b = true → d' = T'.length ∧ PR F a (some V'))) :=
  (propagate_ok hO hm hU hF hI hd hP).mono fun v H h => by
    obtain ⟨V', T', d', rfl, h1, h2, ⟨rfl, h3⟩ | ⟨rfl, h3, h4⟩⟩ := h
    · exact ⟨false, V', T', d', rfl, rfl, h1, h2, (fun _ => h3), fun h => by cases h⟩
    · exact ⟨true, V', T', d', rfl, rfl, h1, h2, (fun h => by cases h), fun _ => ⟨h3, h4⟩⟩
theorem start_at {ρ : Nat → Obj → Prop} {s : Nat} {p : Sp} {F : Fm} (hO : Ok p.n F) (hm : p.m = F.length) (hU : RSl2 ρ p.ua (usesV p.n F)) (hF : FmR ρ p.ca F) {a V : As} {T : List Int} {d : Nat} (hI : Inv p.n F a V T) (hd : d ≤ T.length) :
    Con Tryd.prog ρ 34 #[.pointer (some ⟨s, 0, none⟩)] [Sv s p V T (trues F V) d] (fun v H => ∃ b V' T', v = .bool b ∧ H = [Sv s p V' T' (trues F V') d] ∧ Inv p.n F a V' T' ∧ T <+: T' ∧ (b = false → PR F a none) ∧ (b = true → ∀ c ∈ F, Pend V' T' d c)) :=
  (start_ok hO hm hU hF hI hd).mono fun v H h => by
    obtain ⟨V', T', rfl, h1, h2, ⟨rfl, h3⟩ | ⟨rfl, h3⟩⟩ := h
    · exact ⟨false, V', T', rfl, rfl, h1, h2, (fun _ => h3), fun h => by cases h⟩
    · exact ⟨true, V', T', rfl, rfl, h1, h2, (fun h => by cases h), fun _ => h3⟩
end Go.Proofs.YtopgbgnmjogeeaaDoor
/- Chapter 37: the search. Conditions: none. -/
namespace Go.Proofs.YtopgbgnmjogeeaaDoor
set_option maxRecDepth 8000
set_option linter.unusedVariables false
set_option linter.unusedSimpArgs false
set_option linter.unusedSectionVars false
open Go Go.Z Go.Z.Sat

theorem search_ok {ρ : Nat → Obj → Prop} {s : Nat} {p : Sp} {F : Fm} (hO : Ok p.n F) (hm : p.m = F.length) (hU : RSl2 ρ p.ua (usesV p.n F)) (hF : FmR ρ p.ca F) (bud : Int) (hbud : 0 ≤ bud ∧ bud ≤ 9223372036854775807) :
    Con Tryd.prog ρ 24 #[.pointer (some ⟨s, 0, none⟩), .int .i64 bud] [Sv s p (fun _ => none) [] (trues F (fun _ => none)) 0] (fun v H => ∃ r a c, Sat.Reach F p.n bud (fun _ => none) [] 0 r ∧ v = .tuple #[.int .i64 (ocode r), .slice a (ocells p.n r).length c] ∧ H = [OwnSl 4 1 a (ocells p.n r).length c (ocells p.n r)]) := by
  have hvars := hO.vars
  have hTI := (TI.nil p.n).inv (F := F)
  refine con_intro Tryd.func24 Tryd.call24 rfl Tryd.ntmps24 rfl (L := [(0, _), (1, _)]) rfl fun w hh => ?_
  refine g_seq ?_
  refine g_region ?_
  refine g_pure (p_assign rfl) rfl ?_
  refine g_pure (p_assign rfl) rfl ?_
  refine g_nil ?_
  refine g_qt ?_
  refine g_scope ?_
  refine g_seq ?_
  refine g_region ?_
  refine g_pure (p_assign rfl) rfl ?_
  refine g_nil ?_
  refine g_qt ?_
  refine g_seq ?_
  refine g_region ?_
  refine g_pure (p_assign rfl) rfl ?_
  refine g_pure (p_assign rfl) rfl ?_
  refine g_nil ?_
  refine g_qt ?_
  refine g_seq ?_
  refine g_join (fun y : Bool × As × List Int × Nat => [(0, .pointer (some ⟨s, 0, none⟩)), (1, .int .i64 bud), (6, .slice none 0 0), (7, .int .i64 0), (8, .int .i64 1), (9, .bool y.1)])
    (fun y => [Sv s p y.2.1 y.2.2.1 (trues F y.2.1) y.2.2.2]) (fun y => Inv p.n F (fun _ => none) y.2.1 y.2.2.1 ∧ (y.1 = false → PR F (fun _ => none) none) ∧ (y.1 = true → y.2.2.2 = y.2.2.1.length ∧ PR F (fun _ => none) (some y.2.1))) ?_ ?_
  · refine g_region ?_
    refine g_pure (p_move rfl) rfl ?_
    refine g_call (Hin := [Sv s p (fun _ => none) [] (trues F (fun _ => none)) 0]) (Hr := ?hr1) (R := ?rr1) rfl rfl rfl ?hin1 ?hc1 ?hk1
    case hin1 => repeat' (first | exact Cover.nil | exact Take.here | apply Cover.cons | apply Take.there)
    case hc1 => intro ρ' hρ hR; exact start_at hO hm (hU.mono hρ) (hF.mono hρ) hTI (Nat.zero_le _)
    rintro _ _ ⟨b1, V1, T1, rfl, rfl, hI1, hp1, hn1, hy1⟩
    refine g_pure (p_move rfl) rfl ?_
    cases b1 with
    | false =>
      refine g_no rfl rfl rfl rfl ?_
      refine g_no rfl rfl rfl rfl ?_
      first | refine g_pure (p_pickt rfl rfl) rfl ?_ | refine g_pure (p_pickf rfl rfl) rfl ?_
      refine g_pure (p_assign rfl) rfl ?_
      refine g_nil ?_
      refine g_qn ?_
      exact g_joined (false, V1, T1, 0) (by (repeat (first | exact trivial | refine ⟨by rfl, ?_⟩)); done) (by repeat' (first | exact Cover.nil | exact Take.here | apply Cover.cons | apply Take.there)) ⟨hI1, hn1, fun h => by cases h⟩
    | true =>
      refine g_yes rfl rfl ?_
      refine g_pure (p_move rfl) rfl ?_
      refine g_yes rfl rfl ?_
      refine g_call (Hin := [Sv s p V1 T1 (trues F V1) 0]) (Hr := ?hr2) (R := ?rr2) rfl rfl rfl ?hin2 ?hc2 ?hk2
      case hin2 => repeat' (first | exact Cover.nil | exact Take.here | apply Cover.cons | apply Take.there)
      case hc2 => intro ρ' hρ hR; exact prop_at hO hm (hU.mono hρ) (hF.mono hρ) hI1 (Nat.zero_le _) (hy1 rfl)
      rintro _ _ ⟨b2, V2, T2, d2, rfl, rfl, hI2, hp2, hn2, hy2⟩
      first | refine g_pure (p_pickt rfl rfl) rfl ?_ | refine g_pure (p_pickf rfl rfl) rfl ?_
      refine g_pure (p_assign rfl) rfl ?_
      refine g_nil ?_
      refine g_qn ?_
      exact g_joined (b2, V2, T2, d2) (by (repeat (first | exact trivial | refine ⟨by rfl, ?_⟩)); done) (by repeat' (first | exact Cover.nil | exact Take.here | apply Cover.cons | apply Take.there)) ⟨hI2, hn2, hy2⟩
  rintro ⟨b0, V0, T0, d0⟩ ⟨hI0, hn0, hy0⟩
  dsimp only at hI0 hn0 hy0 ⊢
  refine g_ownnil (e := 94) (size := 3) ?_
  refine g_qt ?_
  refine g_seq ?_
  refine g_label ?_
  refine g_qt ?_
  refine g_seq ?_
  refine g_block ?_
  refine g_loop (fun x : SS => [(0, .pointer (some ⟨s, 0, none⟩)), (1, .int .i64 bud), (6, .slice x.la x.D.length x.lc), (7, .int .i64 x.k), (8, .int .i64 x.v), (9, .bool x.b)])
    (fun x => [Sv s p x.V x.T (trues F x.V) x.d, OwnSl 94 3 x.la x.D.length x.lc (x.D.flatMap encD)]) (fun x => SI p.n F bud x) (fun x => x.mu p.n) ⟨b0, fun _ => none, V0, T0, d0, [], 0, 1, none, 0⟩
    ⟨hI0, ⟨by simp, fun e he => absurd he List.not_mem_nil⟩, hn0, fun h => ⟨(hy0 h).1, (hy0 h).2, fun u h1 h2 => by dsimp only at h2; omega⟩, ⟨Nat.le_refl _, by dsimp only; omega⟩, ⟨Int.le_refl _, hbud.1⟩, fun r hr => hr⟩ (by (repeat (first | exact trivial | refine ⟨by rfl, ?_⟩)); done) (by repeat' (first | exact Cover.nil | exact Take.here | apply Cover.cons | apply Take.there)) ?_
  intro x0 hx0
  refine g_block ?_
  refine g_seq ?_
  refine g_block ?_
  refine g_loop (fun x : SS => [(0, .pointer (some ⟨s, 0, none⟩)), (1, .int .i64 bud), (6, .slice x.la x.D.length x.lc), (7, .int .i64 x.k), (8, .int .i64 x.v), (9, .bool x.b)])
    (fun x => [Sv s p x.V x.T (trues F x.V) x.d, OwnSl 94 3 x.la x.D.length x.lc (x.D.flatMap encD)]) (fun x => SI p.n F bud x ∧ x.mu p.n ≤ x0.mu p.n) (fun x => x.mu p.n) x0 ⟨hx0, Nat.le_refl _⟩ (by (repeat (first | exact trivial | refine ⟨by rfl, ?_⟩)); done) (by repeat' (first | exact Cover.nil | exact Take.here | apply Cover.cons | apply Take.there)) ?_
  rintro ⟨b, a, V, T, d, D, k, vv, la, lc⟩ ⟨hx, hmu⟩
  dsimp only
  have hTn : T.length ≤ p.n := by have := hx.inv.cnt; dsimp only at this; omega
  have hDn : D.length ≤ T.length := hx.stk.len
  refine g_seq ?_
  refine g_seq ?_
  refine g_region ?_
  refine g_pure (p_move rfl) rfl ?_
  refine g_pure (p_not rfl) rfl ?_
  refine g_nil ?_
  refine g_qt ?_
  cases b with
  | false =>
    refine g_ift rfl ?_
    refine g_skip ?_
    refine g_qt ?_
    refine g_block ?_
    refine g_seq ?_
    refine g_region ?_
    refine g_pure (p_move rfl) rfl ?_
    refine g_pure (p_len (by rfl) rfl) rfl ?_
    first | refine g_pure (p_subi rfl rfl (by omega)) rfl ?_ | refine g_pure (p_sub rfl rfl) rfl ?_
    refine g_pure (p_assign rfl) rfl ?_
    refine g_nil ?_
    refine g_qt ?_
    refine g_seq ?_
    refine g_block ?_
    refine g_loop (fun j : Nat => [(0, .pointer (some ⟨s, 0, none⟩)), (1, .int .i64 bud), (6, .slice la D.length lc), (7, .int .i64 k), (8, .int .i64 vv), (10, .int .i64 ((j : Int) - 1))])
      (fun _ => [Sv s p V T (trues F V) d, OwnSl 94 3 la D.length lc (D.flatMap encD)]) (fun j => j ≤ D.length ∧ ∀ i (hi : i < D.length), j ≤ i → D[i].2.2 = true) (fun j => j) D.length ⟨Nat.le_refl _, fun i hi h => absurd hi (by omega)⟩ (by (repeat (first | exact trivial | refine ⟨by rfl, ?_⟩)); done) (by repeat' (first | exact Cover.nil | exact Take.here | apply Cover.cons | apply Take.there)) ?_
    rintro j ⟨hj, hr⟩
    refine g_seq ?_
    refine g_seq ?_
    refine g_region ?_
    refine g_pure (p_move rfl) rfl ?_
    refine g_pure (p_geq rfl rfl) rfl ?_
    refine g_pure (p_move rfl) rfl ?_
    refine g_splitd rfl rfl (fun g => ?_) (fun g => ?_)
    · obtain ⟨i, rfl⟩ : ∃ i, j = i + 1 := ⟨j - 1, by omega⟩
      have hk1 : ((i + 1 : Nat) : Int) - 1 = (i : Int) := by omega
      rw [hk1]
      have hi : i < D.length := by omega
      refine g_own (a1 := la) (k := D.length) (.there .here) (fun _ h _ _ => absurd h (by omega)) ?_
      rintro gl curl rfl q1 q2 q3 q4 q5
      obtain ⟨⟨v, bf, r⟩, hDi⟩ : ∃ e, e = D[i] := ⟨_, rfl⟩
      have xr : curl[0 + (i : Int).toNat * 3 + 2]? = some (.bool r) := own_at3 q4 (by rw [dcell hi (j := 2) (by omega) (by omega), ← hDi]; rfl)
      have xv : curl[0 + (i : Int).toNat * 3]? = some (.int .i64 v) := own_at3 q4 (by rw [dcell hi (j := 0) (by omega) (by omega), ← hDi]; rfl)
      have xb : curl[0 + (i : Int).toNat * 3 + 1]? = some (.int .i64 bf) := own_at3 q4 (by rw [dcell hi (j := 1) (by omega) (by omega), ← hDi]; rfl)
      refine g_yes rfl rfl ?_
      refine g_pure (p_move rfl) rfl ?_
      refine g_yes rfl rfl ?_
      refine g_pure (p_move rfl) rfl ?_
      refine g_yes rfl rfl ?_
      refine g_pure (p_indexAddr rfl rfl (by omega) (fun _ => rfl)) rfl ?_
      refine g_yes rfl rfl ?_
      refine g_pure (p_fieldAddr rfl) rfl ?_
      refine g_yes rfl rfl ?_
      refine g_pure (p_load (by rfl) rfl (Has.own (by repeat' (first | exact Take.here | apply Take.there))) xr) rfl ?_
      first | refine g_pure (p_pickt rfl rfl) rfl ?_ | refine g_pure (p_pickf rfl rfl) rfl ?_
      refine g_nil ?_
      refine g_qt ?_
      cases r with
      | true =>
        refine g_ift rfl ?_
        refine g_skip ?_
        refine g_qt ?_
        refine g_block ?_
        refine g_region ?_
        refine g_pure (p_move rfl) rfl ?_
        first | refine g_pure (p_subi rfl rfl (by omega)) rfl ?_ | refine g_pure (p_sub rfl rfl) rfl ?_
        refine g_pure (p_assign rfl) rfl ?_
        refine g_nil ?_
        refine g_qb ?_
        refine g_qn ?_
        refine g_fold (k := D.length) (cap := lc) (size := 3) (g := gl) (by repeat' (first | exact Take.here | apply Take.there)) q1 q2 q3 q4 ?_
        refine g_next i (by (repeat (first | exact trivial | refine ⟨by rfl, ?_⟩)); done) (by repeat' (first | exact Cover.nil | exact Take.here | apply Cover.cons | apply Take.there)) ⟨by omega, fun i' hi' h' => ?_⟩ (by omega)
        by_cases e : i' = i
        · subst e; rw [← hDi]
        · exact hr i' hi' (by omega)
      | false =>
        obtain ⟨hb1, hle, hfx⟩ := hx.stk.each D[i] (List.getElem_mem hi)
        rw [← hDi] at hb1 hle hfx
        dsimp only at hb1 hle hfx
        have hxv : ∀ z, (curl.set (0 + (i : Int).toNat * 3 + 2) z)[0 + (i : Int).toNat * 3]? = some (.int .i64 v) := fun z => by rw [List.getElem?_set_ne (by omega)]; exact xv
        have hxb : ∀ z, (curl.set (0 + (i : Int).toNat * 3 + 2) z)[0 + (i : Int).toNat * 3 + 1]? = some (.int .i64 bf) := fun z => by rw [List.getElem?_set_ne (by omega)]; exact xb
        have hvn := hle.1
        have hneg : lv (asg (T.take bf)) (-(v : Int)) = none := by rw [lv_negv, hle.2.1]; rfl
        have hokn : okL p.n (-(v : Int)) := ⟨by omega, by omega, by omega⟩
        have hti := hx.inv.ti.cut (Nat.le_of_lt hb1)
        have hti2 := (hti.set hokn hneg).inv (F := F)
        have hpend := hfx.pend hO.lits (T := T.take bf) hokn.1 hneg
        have hset : setF (asg (T.take bf)) (T.take bf) [-(v : Int)] = (true, put (asg (T.take bf)) (-(v : Int)), T.take bf ++ [-(v : Int)]) := by rw [setF_cons, hneg]; rfl
        have hlt : (T.take bf).length = bf := by rw [List.length_take]; omega
        rw [hlt] at hpend
        refine g_iff rfl ?_
        refine g_exit ?_
        refine g_qt_exit ?_
        refine g_qn_exit ?_
        refine g_qb_exit ?_
        refine g_qt ?_
        refine g_seq ?_
        refine g_seq ?_
        refine g_region ?_
        refine g_pure (p_move rfl) rfl ?_
        refine g_pure (p_lss rfl rfl) rfl ?_
        refine g_nil ?_
        refine g_qt ?_
        refine g_iff rfl ?_
        refine g_skip ?_
        refine g_qt ?_
        refine g_seq ?_
        refine g_region ?_
        refine g_pure (p_move rfl) rfl ?_
        refine g_pure (p_move rfl) rfl ?_
        first | refine g_pure (p_addi rfl rfl (by omega)) rfl ?_ | refine g_pure (p_add rfl rfl) rfl ?_
        refine g_pure (p_sliceh rfl rfl (by omega)) rfl ?_
        refine g_pure (p_assign rfl) rfl ?_
        refine g_nil ?_
        refine g_qt ?_
        refine g_seq ?_
        refine g_region ?_
        refine g_pure (p_move rfl) rfl ?_
        refine g_pure (p_move rfl) rfl ?_
        refine g_pure (p_indexAddr rfl rfl (by omega) (fun _ => rfl)) rfl ?_
        refine g_pure (p_fieldAddr rfl) rfl ?_
        refine g_eff0 (e_store1 (by rfl) rfl rfl rfl (by repeat' (first | exact Take.here | apply Take.there)) (by simp; omega)) (fun _ _ => ?_)
        rintro rfl
        refine g_nil ?_
        refine g_qt ?_
        refine g_seq ?_
        refine g_region ?_
        refine g_pure (p_move rfl) rfl ?_
        refine g_pure (p_move rfl) rfl ?_
        refine g_pure (p_move rfl) rfl ?_
        refine g_pure (p_indexAddr rfl rfl (by omega) (fun _ => rfl)) rfl ?_
        refine g_pure (p_fieldAddr rfl) rfl ?_
        refine g_pure (p_load (by rfl) rfl (Has.own (by repeat' (first | exact Take.here | apply Take.there))) (hxb _)) rfl ?_
        refine g_call (Hin := [Sv s p V T (trues F V) d]) (Hr := ?hr3) (R := ?rr3) rfl rfl rfl ?hin3 ?hc3 ?hk3
        case hin3 => repeat' (first | exact Cover.nil | exact Take.here | apply Cover.cons | apply Take.there)
        case hc3 => intro ρ' hρ hR; exact sundo_ok hO hm (hU.mono hρ) hx.inv bf hb1
        rintro _ _ ⟨rfl, rfl⟩
        refine g_nil ?_
        refine g_qt ?_
        refine g_seq ?_
        refine g_region ?_
        refine g_pure (p_move rfl) rfl ?_
        refine g_pure (p_move rfl) rfl ?_
        refine g_pure (p_indexAddr rfl rfl (by omega) (fun _ => rfl)) rfl ?_
        refine g_pure (p_fieldAddr rfl) rfl ?_
        refine g_pure (p_load (by rfl) rfl (Has.own (by repeat' (first | exact Take.here | apply Take.there))) (hxv _)) rfl ?_
        refine g_pure (p_assign rfl) rfl ?_
        refine g_nil ?_
        refine g_qt ?_
        refine g_region ?_
        refine g_pure (p_move rfl) rfl ?_
        refine g_pure (p_move rfl) rfl ?_
        refine g_pure (p_move rfl) rfl ?_
        refine g_pure (p_indexAddr rfl rfl (by omega) (fun _ => rfl)) rfl ?_
        refine g_pure (p_fieldAddr rfl) rfl ?_
        refine g_pure (p_load (by rfl) rfl (Has.own (by repeat' (first | exact Take.here | apply Take.there))) (hxv _)) rfl ?_
        first | refine g_pure (p_negi rfl (by omega)) rfl ?_ | refine g_pure (p_neg rfl) rfl ?_
        refine g_eff (e_bs (xs := [.tmp 61]) rfl rfl rfl (by rfl) (by rfl) rfl (by rfl)) rfl (fun _ _ => ?_)
        rintro ⟨b62, rfl, rfl⟩
        refine g_call (Hin := [Sv s p (asg (T.take bf)) (T.take bf) (trues F (asg (T.take bf))) bf]) (Hr := ?hr4) (R := ?rr4) rfl rfl rfl ?hin4 ?hc4 ?hk4
        case hin4 => repeat' (first | exact Cover.nil | exact Take.here | apply Cover.cons | apply Take.there)
        case hc4 => intro ρ' hρ hR; exact set_at (ls := [-(v : Int)]) hO hm (hU.mono hρ) hti.cnt hset (.of_blk hR.1.blk (by simp)) (by simp) (by simp; exact hokn)
        rintro _ _ ⟨rfl, rfl⟩
        refine g_pure (p_move rfl) rfl ?_
        refine g_yes rfl rfl ?_
        refine g_pure (p_move rfl) rfl ?_
        refine g_yes rfl rfl ?_
        refine g_call (Hin := [Sv s p (put (asg (T.take bf)) (-(v : Int))) (T.take bf ++ [-(v : Int)]) (trues F (put (asg (T.take bf)) (-(v : Int)))) bf]) (Hr := ?hr5) (R := ?rr5) rfl rfl rfl ?hin5 ?hc5 ?hk5
        case hin5 => repeat' (first | exact Cover.nil | exact Take.here | apply Cover.cons | apply Take.there)
        case hc5 => intro ρ' hρ hR; exact prop_at hO hm (hU.mono hρ) (hF.mono hρ) hti2 (by simp; omega) hpend
        rintro _ _ ⟨b2, V2, T2, d2, rfl, rfl, hI2, hp2, hn2, hy2⟩
        first | refine g_pure (p_pickt rfl rfl) rfl ?_ | refine g_pure (p_pickf rfl rfl) rfl ?_
        refine g_pure (p_assign rfl) rfl ?_
        refine g_nil ?_
        refine g_qb ?_
        refine g_qn ?_
        obtain ⟨D2, hD2⟩ : ∃ D2, D2 = D.take i ++ [(v, bf, true)] := ⟨_, rfl⟩
        have hl2 : D2.length = i + 1 := by rw [hD2]; simp; omega
        have hk2 : ((i : Int) + 1).toNat = D2.length := by omega
        have hst := hx.back rfl (j := i) (v := v) (b := bf) hi hDi.symm (fun i' hi' h' => hr i' hi' h') (la := some ⟨gl, 0, none⟩) (lc := lc) hI2 hp2 hn2 hy2
        dsimp only at hst
        rw [← hD2] at hst
        refine g_fold (k := D2.length) (cap := lc) (size := 3) (g := gl) (xs := D2.flatMap encD) (by repeat' (first | exact Take.here | apply Take.there)) (by omega) q2 (by rw [List.length_set]; exact q3) (by rw [hl2, hD2]; exact dec_set q4 hi hDi.symm (by dsimp only; omega)) ?_
        rw [hk2]
        exact g_next ⟨b2, _, V2, T2, d2, D2, k, v, some ⟨gl, 0, none⟩, lc⟩ (by (repeat (first | exact trivial | refine ⟨by rfl, ?_⟩)); done) (by repeat' (first | exact Cover.nil | exact Take.here | apply Cover.cons | apply Take.there)) ⟨hst.1, Nat.le_trans (Nat.le_of_lt hst.2) hmu⟩ hst.2
    · have hj0 : j = 0 := by omega
      subst hj0
      have hL : lvls T D = [] := by
        rw [lvls_drop (j := 0) (fun i hi h => hr i hi h)]; rfl
      refine g_no rfl rfl rfl rfl ?_
      refine g_no rfl rfl rfl rfl ?_
      refine g_no rfl rfl rfl rfl ?_
      refine g_no rfl rfl rfl rfl ?_
      refine g_no rfl rfl rfl rfl ?_
      first | refine g_pure (p_pickt rfl rfl) rfl ?_ | refine g_pure (p_pickf rfl rfl) rfl ?_
      refine g_nil ?_
      refine g_qt ?_
      refine g_iff rfl ?_
      refine g_exit ?_
      refine g_qt_exit ?_
      refine g_qn_exit ?_
      refine g_qb_exit ?_
      refine g_qt ?_
      refine g_seq ?_
      refine g_seq ?_
      refine g_region ?_
      refine g_pure (p_move rfl) rfl ?_
      refine g_pure (p_lss rfl rfl) rfl ?_
      refine g_nil ?_
      refine g_qt ?_
      refine g_ift rfl ?_
      refine g_exit ?_
      refine g_qt_exit ?_
      refine g_qb_other rfl ?_
      refine g_qn_exit ?_
      refine g_qb_other rfl ?_
      refine g_qt_exit ?_
      refine g_qb_other rfl ?_
      refine g_qn_exit ?_
      refine g_qb_exit ?_
      refine g_qt ?_
      refine g_seq ?_
      refine g_region ?_
      refine g_pure (p_assign rfl) rfl ?_
      refine g_pure (p_assign rfl) rfl ?_
      refine g_nil ?_
      refine g_qt ?_
      refine g_ret ?_
      refine g_qs_ret ?_
      refine g_ownnil (e := 4) (size := 1) ?_
      refine g_post (rs := [.tmp 4, .tmp 5]) rfl (.tmp rfl (.tmp rfl .nil)) ⟨.uns, none, 0, hx.res .uns ?_, rfl, rfl⟩ (by repeat' (first | exact Cover.nil | exact Take.here | apply Cover.cons | apply Take.there))
      unfold SS.L
      dsimp only
      rw [hL]
      exact .uns (hx.no rfl)
  | true =>
    obtain ⟨hd, hpr, hva⟩ := hx.yes rfl
    dsimp only at hd hpr hva
    have hv1 := hx.v1
    dsimp only at hv1
    have hkk := hx.kk
    dsimp only at hkk
    refine g_iff rfl ?_
    refine g_exit ?_
    refine g_qt_exit ?_
    refine g_qn_exit ?_
    refine g_qb_exit ?_
    refine g_qt ?_
    refine g_seq ?_
    refine g_open .here ?_
    rintro _ ⟨va, vc, ta, tc, xa, xc, rfl⟩
    refine g_own (a1 := va) (k := p.n + 1) (.there .here) (fun _ h _ _ => absurd h (by omega)) ?_
    rintro gv curv rfl v1 v2 v3 v4 v5
    refine g_join (fun u : Nat => [(0, .pointer (some ⟨s, 0, none⟩)), (1, .int .i64 bud), (6, .slice la D.length lc), (7, .int .i64 k), (8, .int .i64 u)])
      (fun _ => [OwnSl 3 1 (some ⟨gv, 0, none⟩) (p.n + 1) vc (vcells p.n V), Blk s (.cells [.int .i64 p.n, .slice p.ca p.m p.cc, .slice (some ⟨gv, 0, none⟩) (p.n + 1) vc, .slice ta T.length tc, .slice p.ua (2 * p.n + 2) p.uc, .slice xa p.m xc, .int .i64 ((trues F V).count 0 : Nat), .int .i64 d].toArray 83 (0, 0)),
        OwnSl 3 1 ta T.length tc (T.map encI), OwnSl 3 1 xa p.m xc ((trues F V).map encN), OwnSl 94 3 la D.length lc (D.flatMap encD)])
      (fun u => 1 ≤ u ∧ u ≤ p.n + 1 ∧ (∀ w, 1 ≤ w → w < u → V w ≠ none) ∧ (u ≤ p.n → V u = none)) ?_ ?_
    · refine g_block ?_
      refine g_loop (fun u : Nat => [(0, .pointer (some ⟨s, 0, none⟩)), (1, .int .i64 bud), (6, .slice la D.length lc), (7, .int .i64 k), (8, .int .i64 u)])
        (fun _ => [Blk gv (.cells curv.toArray 3 (0, 0)), Blk s (.cells [.int .i64 p.n, .slice p.ca p.m p.cc, .slice (some ⟨gv, 0, none⟩) (p.n + 1) vc, .slice ta T.length tc, .slice p.ua (2 * p.n + 2) p.uc, .slice xa p.m xc, .int .i64 ((trues F V).count 0 : Nat), .int .i64 d].toArray 83 (0, 0)),
        OwnSl 3 1 ta T.length tc (T.map encI), OwnSl 3 1 xa p.m xc ((trues F V).map encN), OwnSl 94 3 la D.length lc (D.flatMap encD)])
        (fun u => 1 ≤ u ∧ u ≤ p.n + 1 ∧ ∀ w, 1 ≤ w → w < u → V w ≠ none) (fun u => p.n + 1 - u) vv ⟨hv1.1, hv1.2, hva⟩ (by (repeat (first | exact trivial | refine ⟨by rfl, ?_⟩)); done) (by repeat' (first | exact Cover.nil | exact Take.here | apply Cover.cons | apply Take.there)) ?_
      rintro u ⟨hu1, hu2, hu3⟩
      refine g_seq ?_
      refine g_seq ?_
      refine g_region ?_
      refine g_pure (p_move rfl) rfl ?_
      refine g_pure (p_move rfl) rfl ?_
      refine g_pure (p_nilCheck rfl) rfl ?_
      refine g_pure (p_fieldAddr rfl) rfl ?_
      refine g_pure (p_fieldAddr rfl) rfl ?_
      refine g_pure (p_load (by rfl) rfl (by first | (apply Has.own; (repeat' (first | exact Take.here | apply Take.there)); done) | exact Has.ro (by assumption)) (by first | rfl | assumption)) rfl ?_
      refine g_pure (p_leq rfl rfl) rfl ?_
      refine g_pure (p_move rfl) rfl ?_
      refine g_splitd rfl rfl (fun g => ?_) (fun g => ?_)
      · have xu : curv[0 + (u : Int).toNat * 1]? = some (.int .i64 (vcode (V u))) := own_at (k := u) v4 (by omega) (vcells_at V (by omega))
        refine g_yes rfl rfl ?_
        refine g_pure (p_move rfl) rfl ?_
        refine g_yes rfl rfl ?_
        refine g_pure (p_nilCheck rfl) rfl ?_
        refine g_yes rfl rfl ?_
        refine g_pure (p_fieldAddr rfl) rfl ?_
        refine g_yes rfl rfl ?_
        refine g_pure (p_load (by rfl) rfl (by first | (apply Has.own; (repeat' (first | exact Take.here | apply Take.there)); done) | exact Has.ro (by assumption)) (by first | rfl | assumption)) rfl ?_
        refine g_yes rfl rfl ?_
        refine g_pure (p_move rfl) rfl ?_
        refine g_yes rfl rfl ?_
        refine g_pure (p_indexAddr rfl rfl (by omega) (fun _ => rfl)) rfl ?_
        refine g_yes rfl rfl ?_
        refine g_pure (p_load (by rfl) rfl (Has.own (by repeat' (first | exact Take.here | apply Take.there))) xu) rfl ?_
        refine g_yes rfl rfl ?_
        refine g_pure (p_neq rfl rfl) rfl ?_
        first | refine g_pure (p_pickt rfl rfl) rfl ?_ | refine g_pure (p_pickf rfl rfl) rfl ?_
        refine g_nil ?_
        refine g_qt ?_
        refine g_ifnd rfl (fun h => ?_) (fun h => ?_)
        · refine g_skip ?_
          refine g_qt ?_
          refine g_block ?_
          refine g_region ?_
          refine g_pure (p_move rfl) rfl ?_
          first | refine g_pure (p_addi rfl rfl (by omega)) rfl ?_ | refine g_pure (p_add rfl rfl) rfl ?_
          refine g_pure (p_assign rfl) rfl ?_
          refine g_nil ?_
          refine g_qb ?_
          refine g_qn ?_
          refine g_next (u + 1) (by (repeat (first | exact trivial | refine ⟨by rfl, ?_⟩)); done) (by repeat' (first | exact Cover.nil | exact Take.here | apply Cover.cons | apply Take.there)) ⟨by omega, by omega, fun w h1 h2 => ?_⟩ (by omega)
          by_cases e : w = u
          · subst e
            intro e2
            rw [e2] at h
            exact h rfl
          · exact hu3 w h1 (by omega)
        · refine g_exit ?_
          refine g_qt_exit ?_
          refine g_qn_exit ?_
          refine g_qb_exit ?_
          refine g_qn ?_
          refine g_fold (k := p.n + 1) (cap := vc) (size := 1) (g := gv) (by repeat' (first | exact Take.here | apply Take.there)) v1 v2 v3 v4 ?_
          refine g_joined u (by (repeat (first | exact trivial | refine ⟨by rfl, ?_⟩)); done) (by repeat' (first | exact Cover.nil | exact Take.here | apply Cover.cons | apply Take.there)) ⟨hu1, hu2, hu3, fun _ => ?_⟩
          cases e : V u with
          | none => rfl
          | some y => rw [e] at h; cases y <;> simp [vcode] at h
      · refine g_no rfl rfl rfl rfl ?_
        refine g_no rfl rfl rfl rfl ?_
        refine g_no rfl rfl rfl rfl ?_
        refine g_no rfl rfl rfl rfl ?_
        refine g_no rfl rfl rfl rfl ?_
        refine g_no rfl rfl rfl rfl ?_
        refine g_no rfl rfl rfl rfl ?_
        refine g_no rfl rfl rfl rfl ?_
        first | refine g_pure (p_pickt rfl rfl) rfl ?_ | refine g_pure (p_pickf rfl rfl) rfl ?_
        refine g_nil ?_
        refine g_qt ?_
        refine g_iff rfl ?_
        refine g_exit ?_
        refine g_qt_exit ?_
        refine g_qn_exit ?_
        refine g_qb_exit ?_
        refine g_qn ?_
        refine g_fold (k := p.n + 1) (cap := vc) (size := 1) (g := gv) (by repeat' (first | exact Take.here | apply Take.there)) v1 v2 v3 v4 ?_
        exact g_joined u (by (repeat (first | exact trivial | refine ⟨by rfl, ?_⟩)); done) (by repeat' (first | exact Cover.nil | exact Take.here | apply Cover.cons | apply Take.there)) ⟨hu1, hu2, hu3, fun h => by omega⟩
    rintro u ⟨hu1, hu2, hu3, hu4⟩
    refine g_qt ?_
    refine g_seq ?_
    refine g_seq ?_
    refine g_region ?_
    refine g_pure (p_move rfl) rfl ?_
    refine g_pure (p_nilCheck rfl) rfl ?_
    refine g_pure (p_fieldAddr rfl) rfl ?_
    refine g_pure (p_load (by rfl) rfl (by first | (apply Has.own; (repeat' (first | exact Take.here | apply Take.there)); done) | exact Has.ro (by assumption)) (by first | rfl | assumption)) rfl ?_
    refine g_pure (p_eql rfl rfl) rfl ?_
    refine g_nil ?_
    refine g_qt ?_
    refine g_ifd rfl (fun z => ?_) (fun z => ?_)
    · have hsat : satF F V := (trues_sat F V).1 (by omega)
      refine sv_close (V := V) (T := T) (X := trues F V) (d := d) (by repeat' (first | exact Cover.nil | exact Take.here | apply Cover.cons | apply Take.there)) rfl rfl rfl rfl rfl rfl ?_
      refine g_seq ?_
      refine g_region ?_
      refine g_pure (p_move rfl) rfl ?_
      refine g_call (Hin := []) (Hr := ?hr6) (R := ?rr6) rfl rfl rfl ?hin6 ?hc6 ?hk6
      case hin6 => repeat' (first | exact Cover.nil | exact Take.here | apply Cover.cons | apply Take.there)
      case hc6 => intro ρ' hρ hR; exact model_ok hvars hR.1
      rintro _ _ ⟨am, rfl, rfl⟩
      refine g_pure (p_assign rfl) rfl ?_
      refine g_pure (p_assign rfl) rfl ?_
      refine g_nil ?_
      refine g_qt ?_
      refine g_ret ?_
      refine g_qt_ret ?_
      refine g_qb_ret ?_
      refine g_qn_ret ?_
      refine g_qb_ret ?_
      refine g_qt_ret ?_
      refine g_qs_ret ?_
      exact g_post (Ho := [OwnSl 4 1 am p.n p.n (mcells p.n V)]) (rs := [.tmp 4, .tmp 5]) rfl (.tmp rfl (.tmp rfl .nil)) ⟨.sat V, am, p.n, hx.res _ (.sat hpr hsat), by simp [tupled, ocode, ocells, mcells_len], by simp [ocells, mcells_len]⟩ (by repeat' (first | exact Cover.nil | exact Take.here | apply Cover.cons | apply Take.there))
    · have hsat : ¬ satF F V := fun h => z (by rw [(trues_sat F V).2 h]; rfl)
      obtain ⟨w0, hw1, hw2, hw3⟩ := hpr.2.2.open hO.lits hsat
      have hun : u ≤ p.n := by
        by_cases e : u ≤ p.n
        · exact e
        · exact absurd hw3 (hu3 w0 hw1 (by omega))
      have hleast : Least p.n V u := ⟨⟨hu1, hun⟩, hu4 hun, hu3⟩
      have hpos : lv V (u : Int) = none := by rw [lv_pos _ hu1]; exact hu4 hun
      have hokn : okL p.n (u : Int) := ⟨by omega, by omega, by omega⟩
      have hti2 := (hx.inv.ti.set hokn hpos).inv (F := F)
      dsimp only at hti2
      have hpend := hpr.2.2.pend hO.lits (T := T) hokn.1 hpos
      have hset : setF V T [(u : Int)] = (true, put V (u : Int), T ++ [(u : Int)]) := by rw [setF_cons, hpos]; rfl
      refine g_skip ?_
      refine g_qt ?_
      refine g_seq ?_
      refine g_seq ?_
      refine g_region ?_
      refine g_pure (p_move rfl) rfl ?_
      refine g_pure (p_move rfl) rfl ?_
      refine g_pure (p_eql rfl rfl) rfl ?_
      refine g_nil ?_
      refine g_qt ?_
      refine g_ifd rfl (fun m => ?_) (fun m => ?_)
      · refine g_ownnil (e := 4) (size := 1) ?_
        refine g_seq ?_
        refine g_region ?_
        refine g_pure (p_assign rfl) rfl ?_
        refine g_pure (p_assign rfl) rfl ?_
        refine g_nil ?_
        refine g_qt ?_
        refine g_ret ?_
        refine g_qt_ret ?_
        refine g_qb_ret ?_
        refine g_qn_ret ?_
        refine g_qb_ret ?_
        refine g_qt_ret ?_
        refine g_qs_ret ?_
        exact g_post (rs := [.tmp 4, .tmp 5]) rfl (.tmp rfl (.tmp rfl .nil)) ⟨.unk, none, 0, hx.res _ (.unk hpr hsat m), rfl, rfl⟩ (by repeat' (first | exact Cover.nil | exact Take.here | apply Cover.cons | apply Take.there))
      · refine g_skip ?_
        refine g_qt ?_
        refine g_seq ?_
        refine g_region ?_
        refine g_pure (p_move rfl) rfl ?_
        first | refine g_pure (p_addi rfl rfl (by omega)) rfl ?_ | refine g_pure (p_add rfl rfl) rfl ?_
        refine g_pure (p_assign rfl) rfl ?_
        refine g_nil ?_
        refine g_qt ?_
        refine g_seq ?_
        refine g_region ?_
        refine g_pure (p_move rfl) rfl ?_
        refine g_pure (p_move rfl) rfl ?_
        refine g_pure (p_move rfl) rfl ?_
        refine g_pure (p_nilCheck rfl) rfl ?_
        refine g_pure (p_fieldAddr rfl) rfl ?_
        refine g_pure (p_load (by rfl) rfl (by first | (apply Has.own; (repeat' (first | exact Take.here | apply Take.there)); done) | exact Has.ro (by assumption)) (by first | rfl | assumption)) rfl ?_
        refine g_pure (p_len (by rfl) rfl) rfl ?_
        refine g_pure (p_build (by rfl) rfl (by rfl)) rfl ?_
        refine g_eff (e_bs (xs := [.tmp 106]) rfl rfl rfl (by rfl) (by rfl) rfl (by rfl)) rfl (fun _ _ => ?_)
        rintro ⟨b107, rfl, rfl⟩
        refine g_eff (e_appendO (by rfl) (by rfl) rfl rfl (by first | (apply Has.own; (repeat' (first | exact Take.here | apply Take.there)); done) | exact Has.ro (by assumption)) (by rfl) (by rfl) (by repeat' (first | exact Take.here | apply Take.there)) (by omega) (by first | omega | (dsimp only; omega) | (simp <;> omega)) (by omega)) rfl (fun _ _ => ?_)
        rintro ⟨a108, c108, rfl, rfl⟩
        refine g_pure (p_assign rfl) rfl ?_
        refine g_nil ?_
        refine g_qt ?_
        refine g_seq ?_
        refine sv_close (V := V) (T := T) (X := trues F V) (d := d) (by repeat' (first | exact Cover.nil | exact Take.here | apply Cover.cons | apply Take.there)) rfl rfl rfl rfl rfl rfl ?_
        rw [hd]
        refine g_region ?_
        refine g_pure (p_move rfl) rfl ?_
        refine g_pure (p_move rfl) rfl ?_
        refine g_eff (e_bs (xs := [.tmp 110]) rfl rfl rfl (by rfl) (by rfl) rfl (by rfl)) rfl (fun _ _ => ?_)
        rintro ⟨b111, rfl, rfl⟩
        refine g_call (Hin := [Sv s p V T (trues F V) T.length]) (Hr := ?hr7) (R := ?rr7) rfl rfl rfl ?hin7 ?hc7 ?hk7
        case hin7 => repeat' (first | exact Cover.nil | exact Take.here | apply Cover.cons | apply Take.there)
        case hc7 => intro ρ' hρ hR; exact set_at (ls := [(u : Int)]) hO hm (hU.mono hρ) hx.inv.cnt hset (.of_blk hR.1.blk (by simp)) (by simp) (by simp; exact hokn)
        rintro _ _ ⟨rfl, rfl⟩
        refine g_pure (p_move rfl) rfl ?_
        refine g_yes rfl rfl ?_
        refine g_pure (p_move rfl) rfl ?_
        refine g_yes rfl rfl ?_
        refine g_call (Hin := [Sv s p (put V (u : Int)) (T ++ [(u : Int)]) (trues F (put V (u : Int))) T.length]) (Hr := ?hr8) (R := ?rr8) rfl rfl rfl ?hin8 ?hc8 ?hk8
        case hin8 => repeat' (first | exact Cover.nil | exact Take.here | apply Cover.cons | apply Take.there)
        case hc8 => intro ρ' hρ hR; exact prop_at hO hm (hU.mono hρ) (hF.mono hρ) hti2 (by simp) hpend
        rintro _ _ ⟨b2, V2, T2, d2, rfl, rfl, hI2, hp2, hn2, hy2⟩
        first | refine g_pure (p_pickt rfl rfl) rfl ?_ | refine g_pure (p_pickf rfl rfl) rfl ?_
        refine g_pure (p_assign rfl) rfl ?_
        refine g_nil ?_
        refine g_qt ?_
        refine g_exit ?_
        refine g_qb_exit ?_
        refine g_qn ?_
        have hst := hx.dec rfl hsat m hleast (la := a108) (lc := c108) hI2 hp2 hn2 hy2
        dsimp only at hst
        obtain ⟨D2, hD2⟩ : ∃ D2, D2 = D ++ [(u, T.length, false)] := ⟨_, rfl⟩
        have hl2 : D.length + 1 = D2.length := by rw [hD2]; simp
        have hf2 : D.flatMap encD ++ encD (u, T.length, false) = D2.flatMap encD := by rw [hD2]; simp
        rw [← hD2] at hst
        rw [hl2]
        refine g_weak (A := OwnSl 94 3 a108 D2.length c108 (D.flatMap encD ++ encD (u, T.length, false))) (B := OwnSl 94 3 a108 D2.length c108 (D2.flatMap encD)) (by repeat' (first | exact Take.here | apply Take.there)) (fun h hh => by rw [← hf2]; exact hh) ?_
        exact g_next ⟨b2, _, V2, T2, d2, D2, k + 1, u, a108, c108⟩ (by (repeat (first | exact trivial | refine ⟨by rfl, ?_⟩)); done) (by repeat' (first | exact Cover.nil | exact Take.here | apply Cover.cons | apply Take.there)) hst.1 (Nat.lt_of_lt_of_le hst.2 hmu)
end Go.Proofs.YtopgbgnmjogeeaaDoor
/- Chapter 37: the rows of uses, as they grow. Conditions: none. -/
namespace Go.Z.Sat
set_option maxRecDepth 8000
set_option linter.unusedVariables false
set_option linter.unusedSimpArgs false
set_option linter.unusedSectionVars false
open Go Go.Z Go.Proofs.YtopgbgnmjogeeaaDoor

theorem useRow_append (A : Fm) (c : Cl) (k : Int) : useRow (A ++ [c]) k = useRow A k ++ (c.filter fun x => decide (uix x = k)).map fun _ => A.length := by
  unfold useRow
  rw [List.zipIdx_append, List.flatMap_append]
  simp
theorem useRow_lit (A : Fm) (c : Cl) (l : Int) (k : Int) : useRow (A ++ [c ++ [l]]) k = useRow (A ++ [c]) k ++ if uix l = k then [A.length] else [] := by
  rw [useRow_append, useRow_append, List.filter_append, List.map_append, List.append_assoc]
  congr 2
  by_cases h : uix l = k <;> simp [h]
theorem useRow_pre (F : Fm) {i : Nat} (hi : i < F.length) (j : Nat) (k : Int) : (useRow (F.take i ++ [F[i].take j]) k).length ≤ (useRow F k).length := by
  have e : F = (F.take i ++ [F[i]]) ++ F.drop (i + 1) := by
    rw [List.append_assoc, List.singleton_append, ← List.drop_eq_getElem_cons hi, List.take_append_drop]
  have h1 : (useRow (F.take i ++ [F[i]]) k).length ≤ (useRow F k).length := by
    conv => rhs; rw [e]
    unfold useRow
    rw [List.zipIdx_append (xs := F.take i ++ [F[i]]), List.flatMap_append, List.length_append]
    omega
  refine Nat.le_trans ?_ h1
  rw [useRow_append, useRow_append, List.length_append, List.length_append, List.length_map, List.length_map]
  have := ((List.take_sublist j F[i]).filter fun x => decide (uix x = k)).length_le
  omega
theorem usesV_len (n : Nat) (F : Fm) : (usesV n F).length = 2 * n + 2 := by simp [usesV, uses]
theorem uix_lt {n : Nat} {l : Int} (h : okL n l) : 0 ≤ uix l ∧ uix l < 2 * n + 2 := by unfold uix; have := h.2; split <;> omega
theorem usesV_get {n : Nat} (F : Fm) {k : Nat} (h : k < 2 * n + 2) : (usesV n F)[k]'(by rw [usesV_len]; exact h) = (useRow F k).map encN := by
  simp only [usesV, uses, List.getElem_map, List.getElem_range]
theorem usesV_nil (n : Nat) : usesV n [] = List.replicate (2 * n + 2) [] := by
  refine List.ext_getElem (by rw [usesV_len, List.length_replicate]) fun k h1 h2 => ?_
  rw [usesV_get _ (by rw [usesV_len] at h1; exact h1), List.getElem_replicate]; rfl
theorem usesV_empty (n : Nat) (A : Fm) : usesV n (A ++ [[]]) = usesV n A := by
  refine List.ext_getElem (by rw [usesV_len, usesV_len]) fun k h1 h2 => ?_
  rw [usesV_len] at h1
  rw [usesV_get _ h1, usesV_get _ h1, useRow_append]; simp
theorem usesV_step {n : Nat} (A : Fm) (c : Cl) {l : Int} (hl : okL n l) {r : List Value} (hr : r = (useRow (A ++ [c]) (uix l)).map encN ++ [encN A.length]) : (usesV n (A ++ [c])).set (uix l).toNat r = usesV n (A ++ [c ++ [l]]) := by
  have hu := uix_lt hl
  refine List.ext_getElem (by rw [List.length_set, usesV_len, usesV_len]) fun k h1 h2 => ?_
  rw [usesV_len] at h2
  rw [List.getElem_set, usesV_get _ h2, usesV_get _ h2, useRow_lit]
  by_cases e : (uix l).toNat = k
  · rw [if_pos e, hr, if_pos (by omega)]
    have : uix l = (k : Int) := by omega
    rw [this, List.map_append]; rfl
  · rw [if_neg e, if_neg (by omega), List.append_nil]
theorem trues_none (F : Fm) : trues F (fun _ => none) = List.replicate F.length 0 := by
  refine List.ext_getElem (by simp [trues]) fun k h1 h2 => ?_
  simp only [trues, List.getElem_map, List.getElem_replicate]
  rw [List.countP_eq_zero]
  intro l _
  simp [lv]
theorem vcells_none (n : Nat) : vcells n (fun _ => none) = List.replicate (n + 1) (.int .i64 0) := by
  refine List.ext_getElem (by simp [vcells]) fun k h1 h2 => ?_
  simp [vcells, vcode]
end Go.Z.Sat
namespace Go.Z
set_option maxRecDepth 8000
set_option linter.unusedVariables false
set_option linter.unusedSimpArgs false
set_option linter.unusedSectionVars false
open Go
variable {P : Program} {M : Mx} {n : Nat} {L : Fr} {H H' : List Assn} {T : Act → World → Prop}
theorem g_rowO {ei : TypeId} {hs : List (Option Addr × Nat)} {rows : List (List Value)} (h : hs.length = rows.length) {j : Nat} (hj : j < rows.length)
    (k : G M n L (OwnSl ei 1 (hs[j]'(by omega)).1 rows[j].length (hs[j]'(by omega)).2 rows[j] :: ((inns ei hs rows).eraseIdx j ++ H)) T) : G M n L (inns ei hs rows ++ H) T := g_row h hj k
theorem g_unrowO {ei : TypeId} {hs : List (Option Addr × Nat)} {rows : List (List Value)} (h : hs.length = rows.length) {j : Nat} (hj : j < rows.length) (a : Option Addr) (c : Nat) (r : List Value)
    (k : G M n L (inns ei (hs.set j (a, c)) (rows.set j r) ++ H) T) : G M n L (OwnSl ei 1 a r.length c r :: ((inns ei hs rows).eraseIdx j ++ H)) T := g_unrow h hj (a, c) r k
end Go.Z
/- Chapter 37: a new solver. Conditions: none. -/
namespace Go.Proofs.YtopgbgnmjogeeaaDoor
set_option maxRecDepth 8000
set_option linter.unusedVariables false
set_option linter.unusedSimpArgs false
set_option linter.unusedSectionVars false
open Go Go.Z Go.Z.Sat

theorem snew_ok {ρ : Nat → Obj → Prop} {n : Nat} {F : Fm} (hO : Ok n F) (ca : Option Addr) (cc : Nat) (hF : FmR ρ ca F) :
    Con Tryd.prog ρ 23 #[.agg #[.int .i64 n, .slice ca F.length cc]] [] (fun v H => ∃ s p, p.n = n ∧ p.m = F.length ∧ p.ca = ca ∧ v = .pointer (some ⟨s, 0, none⟩) ∧ H = [Sv s p (fun _ => none) [] (trues F (fun _ => none)) 0, Own2 39 3 p.ua p.uc (usesV n F)]) := by
  have hvars := hO.vars
  have hlen := hO.len
  refine con_intro Tryd.func23 Tryd.call23 rfl Tryd.ntmps23 rfl (L := [(0, _)]) rfl fun w hh => ?_
  refine g_seq ?_
  refine g_region ?_
  refine g_eff (e_box rfl (by rfl)) rfl (fun _ _ => ?_)
  rintro ⟨b1, rfl, rfl⟩
  refine g_pure (p_assign rfl) rfl ?_
  refine g_nil ?_
  refine g_qt ?_
  refine g_seq ?_
  refine g_join (fun y : Nat × Nat × Nat × Nat => [(1, .pointer (some ⟨b1, 0, none⟩)), (3, .pointer (some ⟨y.1, 0, none⟩))])
    (fun y => [Blk b1 (.cells [.int .i64 n, .slice ca F.length cc].toArray 24 (0, 0)), Blk y.1 (.cells [.int .i64 n, .slice ca F.length cc, .slice (some ⟨y.2.1, 0, none⟩) ((n : Int) + 1).toNat ((n : Int) + 1).toNat, .slice none 0 0, .slice (some ⟨y.2.2.1, 0, none⟩) (2 * (n : Int) + 2).toNat (2 * (n : Int) + 2).toNat, .slice (some ⟨y.2.2.2, 0, none⟩) (F.length : Int).toNat (F.length : Int).toNat, .int .i64 F.length, .int .i64 0].toArray 83 (0, 0)),
      Blk y.2.1 (.cells (List.replicate ((n : Int) + 1).toNat (Value.int .i64 0)).toArray 3 (0, 0)), Blk y.2.2.1 (.cells (List.replicate (2 * (n : Int) + 2).toNat (Value.slice none 0 0)).toArray 39 (0, 0)), Blk y.2.2.2 (.cells (List.replicate (F.length : Int).toNat (Value.int .i64 0)).toArray 3 (0, 0))]) (fun _ => True) ?_ ?_
  · refine m_begin0 (.fl 0 1 (.fl 1 0 (.fl 2 1 (.fl 3 0 (.fl 5 0 (.fl 6 1 (.fl 7 0 (.fl 8 0 (.fl 10 0 (.fl 11 1 (.fl 12 0 (.fl 14 0 (.fl 15 1 (.fl 16 0 (.or (.ef 4 (.or (.ef 9 (.ef 13 (.fl 17 0 (.ef 18 (.fl 19 0 .done))))) (.ef 13 (.ef 9 (.fl 17 0 (.ef 18 (.fl 19 0 .done))))))) (.or (.ef 9 (.or (.ef 4 (.ef 13 (.fl 17 0 (.ef 18 (.fl 19 0 .done))))) (.ef 13 (.ef 4 (.fl 17 0 (.ef 18 (.fl 19 0 .done))))))) (.ef 13 (.or (.ef 4 (.ef 9 (.fl 17 0 (.ef 18 (.fl 19 0 .done))))) (.ef 9 (.ef 4 (.fl 17 0 (.ef 18 (.fl 19 0 .done))))))))))))))))))))))) (by kernel_rfl) (by kernel_rfl) ?_
    first | refine m_float rfl (p_loadO (by rfl) rfl (by first | (apply Has.own; (repeat' (first | exact Take.here | apply Take.there)); done) | exact Has.ro (by assumption)) (by rfl)) rfl ?_ | refine m_float rfl (p_loadN (by rfl) rfl (by first | (apply Has.own; (repeat' (first | exact Take.here | apply Take.there)); done) | exact Has.ro (by assumption)) (by first | rfl | assumption)) rfl ?_
    refine m_float0 rfl (fun _ _ => p_fieldAddr rfl) rfl ?_
    refine m_float rfl (p_load (by rfl) rfl (by first | (apply Has.own; (repeat' (first | exact Take.here | apply Take.there)); done) | exact Has.ro (by assumption)) (by first | rfl | assumption)) rfl ?_
    first | refine m_float0 rfl (fun _ _ => p_addi rfl rfl (by omega)) rfl ?_ | refine m_float0 rfl (fun _ _ => p_add rfl rfl) rfl ?_
    refine m_float0 rfl (fun _ _ => p_fieldAddr rfl) rfl ?_
    refine m_float rfl (p_load (by rfl) rfl (by first | (apply Has.own; (repeat' (first | exact Take.here | apply Take.there)); done) | exact Has.ro (by assumption)) (by first | rfl | assumption)) rfl ?_
    first | refine m_float0 rfl (fun _ _ => p_muli rfl rfl (by omega)) rfl ?_ | refine m_float0 rfl (fun _ _ => p_mul rfl rfl) rfl ?_
    first | refine m_float0 rfl (fun _ _ => p_addi rfl rfl (by omega)) rfl ?_ | refine m_float0 rfl (fun _ _ => p_add rfl rfl) rfl ?_
    refine m_float0 rfl (fun _ _ => p_fieldAddr rfl) rfl ?_
    refine m_float rfl (p_load (by rfl) rfl (by first | (apply Has.own; (repeat' (first | exact Take.here | apply Take.there)); done) | exact Has.ro (by assumption)) (by first | rfl | assumption)) rfl ?_
    refine m_float0 rfl (fun _ _ => p_len (by rfl) rfl) rfl ?_
    refine m_float0 rfl (fun _ _ => p_fieldAddr rfl) rfl ?_
    refine m_float rfl (p_load (by rfl) rfl (by first | (apply Has.own; (repeat' (first | exact Take.here | apply Take.there)); done) | exact Has.ro (by assumption)) (by first | rfl | assumption)) rfl ?_
    refine m_float0 rfl (fun _ _ => p_len (by rfl) rfl) rfl ?_
    refine m_or ?_ ?_
    · refine m_eff rfl (e_make (by rfl) (by rfl) rfl rfl (by omega) (by first | omega | (dsimp only; omega)) (by omega)) rfl (fun _ _ => ?_)
      rintro ⟨b12, rfl, rfl⟩
      refine ⟨.some (by repeat' (first | exact Cover.nil | exact Take.here | apply Cover.cons | apply Take.there)), ?_⟩
      refine m_or ?_ ?_
      · refine m_eff rfl (e_make (by rfl) (by rfl) rfl rfl (by omega) (by first | omega | (dsimp only; omega)) (by omega)) rfl (fun _ _ => ?_)
        rintro ⟨b17, rfl, rfl⟩
        refine ⟨.some (by repeat' (first | exact Cover.nil | exact Take.here | apply Cover.cons | apply Take.there)), ?_⟩
        refine m_eff rfl (e_make (by rfl) (by rfl) rfl rfl (by omega) (by first | omega | (dsimp only; omega)) (by omega)) rfl (fun _ _ => ?_)
        rintro ⟨b21, rfl, rfl⟩
        refine ⟨.some (by repeat' (first | exact Cover.nil | exact Take.here | apply Cover.cons | apply Take.there)), ?_⟩
        refine m_float0 rfl (fun _ _ => p_build (by rfl) rfl (by rfl)) rfl ?_
        refine m_eff rfl (e_box rfl (by rfl)) rfl (fun _ _ => ?_)
        rintro ⟨b26, rfl, rfl⟩
        refine ⟨.none (by kernel_rfl), ?_⟩
        refine m_float0 rfl (fun _ _ => p_assign rfl) rfl ?_
        refine m_nil ?_
        refine g_qn ?_
        exact g_joined (b26, b12, b17, b21) (by (repeat (first | exact trivial | refine ⟨by rfl, ?_⟩)); done) (by repeat' (first | exact Cover.nil | exact Take.here | apply Cover.cons | apply Take.there)) trivial
      refine m_eff rfl (e_make (by rfl) (by rfl) rfl rfl (by omega) (by first | omega | (dsimp only; omega)) (by omega)) rfl (fun _ _ => ?_)
      rintro ⟨b21, rfl, rfl⟩
      refine ⟨.some (by repeat' (first | exact Cover.nil | exact Take.here | apply Cover.cons | apply Take.there)), ?_⟩
      refine m_eff rfl (e_make (by rfl) (by rfl) rfl rfl (by omega) (by first | omega | (dsimp only; omega)) (by omega)) rfl (fun _ _ => ?_)
      rintro ⟨b17, rfl, rfl⟩
      refine ⟨.some (by repeat' (first | exact Cover.nil | exact Take.here | apply Cover.cons | apply Take.there)), ?_⟩
      refine m_float0 rfl (fun _ _ => p_build (by rfl) rfl (by rfl)) rfl ?_
      refine m_eff rfl (e_box rfl (by rfl)) rfl (fun _ _ => ?_)
      rintro ⟨b26, rfl, rfl⟩
      refine ⟨.none (by kernel_rfl), ?_⟩
      refine m_float0 rfl (fun _ _ => p_assign rfl) rfl ?_
      refine m_nil ?_
      refine g_qn ?_
      exact g_joined (b26, b12, b17, b21) (by (repeat (first | exact trivial | refine ⟨by rfl, ?_⟩)); done) (by repeat' (first | exact Cover.nil | exact Take.here | apply Cover.cons | apply Take.there)) trivial
    refine m_or ?_ ?_
    · refine m_eff rfl (e_make (by rfl) (by rfl) rfl rfl (by omega) (by first | omega | (dsimp only; omega)) (by omega)) rfl (fun _ _ => ?_)
      rintro ⟨b17, rfl, rfl⟩
      refine ⟨.some (by repeat' (first | exact Cover.nil | exact Take.here | apply Cover.cons | apply Take.there)), ?_⟩
      refine m_or ?_ ?_
      · refine m_eff rfl (e_make (by rfl) (by rfl) rfl rfl (by omega) (by first | omega | (dsimp only; omega)) (by omega)) rfl (fun _ _ => ?_)
        rintro ⟨b12, rfl, rfl⟩
        refine ⟨.some (by repeat' (first | exact Cover.nil | exact Take.here | apply Cover.cons | apply Take.there)), ?_⟩
        refine m_eff rfl (e_make (by rfl) (by rfl) rfl rfl (by omega) (by first | omega | (dsimp only; omega)) (by omega)) rfl (fun _ _ => ?_)
        rintro ⟨b21, rfl, rfl⟩
        refine ⟨.some (by repeat' (first | exact Cover.nil | exact Take.here | apply Cover.cons | apply Take.there)), ?_⟩
        refine m_float0 rfl (fun _ _ => p_build (by rfl) rfl (by rfl)) rfl ?_
        refine m_eff rfl (e_box rfl (by rfl)) rfl (fun _ _ => ?_)
        rintro ⟨b26, rfl, rfl⟩
        refine ⟨.none (by kernel_rfl), ?_⟩
        refine m_float0 rfl (fun _ _ => p_assign rfl) rfl ?_
        refine m_nil ?_
        refine g_qn ?_
        exact g_joined (b26, b12, b17, b21) (by (repeat (first | exact trivial | refine ⟨by rfl, ?_⟩)); done) (by repeat' (first | exact Cover.nil | exact Take.here | apply Cover.cons | apply Take.there)) trivial
      refine m_eff rfl (e_make (by rfl) (by rfl) rfl rfl (by omega) (by first | omega | (dsimp only; omega)) (by omega)) rfl (fun _ _ => ?_)
      rintro ⟨b21, rfl, rfl⟩
      refine ⟨.some (by repeat' (first | exact Cover.nil | exact Take.here | apply Cover.cons | apply Take.there)), ?_⟩
      refine m_eff rfl (e_make (by rfl) (by rfl) rfl rfl (by omega) (by first | omega | (dsimp only; omega)) (by omega)) rfl (fun _ _ => ?_)
      rintro ⟨b12, rfl, rfl⟩
      refine ⟨.some (by repeat' (first | exact Cover.nil | exact Take.here | apply Cover.cons | apply Take.there)), ?_⟩
      refine m_float0 rfl (fun _ _ => p_build (by rfl) rfl (by rfl)) rfl ?_
      refine m_eff rfl (e_box rfl (by rfl)) rfl (fun _ _ => ?_)
      rintro ⟨b26, rfl, rfl⟩
      refine ⟨.none (by kernel_rfl), ?_⟩
      refine m_float0 rfl (fun _ _ => p_assign rfl) rfl ?_
      refine m_nil ?_
      refine g_qn ?_
      exact g_joined (b26, b12, b17, b21) (by (repeat (first | exact trivial | refine ⟨by rfl, ?_⟩)); done) (by repeat' (first | exact Cover.nil | exact Take.here | apply Cover.cons | apply Take.there)) trivial
    refine m_eff rfl (e_make (by rfl) (by rfl) rfl rfl (by omega) (by first | omega | (dsimp only; omega)) (by omega)) rfl (fun _ _ => ?_)
    rintro ⟨b21, rfl, rfl⟩
    refine ⟨.some (by repeat' (first | exact Cover.nil | exact Take.here | apply Cover.cons | apply Take.there)), ?_⟩
    refine m_or ?_ ?_
    · refine m_eff rfl (e_make (by rfl) (by rfl) rfl rfl (by omega) (by first | omega | (dsimp only; omega)) (by omega)) rfl (fun _ _ => ?_)
      rintro ⟨b12, rfl, rfl⟩
      refine ⟨.some (by repeat' (first | exact Cover.nil | exact Take.here | apply Cover.cons | apply Take.there)), ?_⟩
      refine m_eff rfl (e_make (by rfl) (by rfl) rfl rfl (by omega) (by first | omega | (dsimp only; omega)) (by omega)) rfl (fun _ _ => ?_)
      rintro ⟨b17, rfl, rfl⟩
      refine ⟨.some (by repeat' (first | exact Cover.nil | exact Take.here | apply Cover.cons | apply Take.there)), ?_⟩
      refine m_float0 rfl (fun _ _ => p_build (by rfl) rfl (by rfl)) rfl ?_
      refine m_eff rfl (e_box rfl (by rfl)) rfl (fun _ _ => ?_)
      rintro ⟨b26, rfl, rfl⟩
      refine ⟨.none (by kernel_rfl), ?_⟩
      refine m_float0 rfl (fun _ _ => p_assign rfl) rfl ?_
      refine m_nil ?_
      refine g_qn ?_
      exact g_joined (b26, b12, b17, b21) (by (repeat (first | exact trivial | refine ⟨by rfl, ?_⟩)); done) (by repeat' (first | exact Cover.nil | exact Take.here | apply Cover.cons | apply Take.there)) trivial
    refine m_eff rfl (e_make (by rfl) (by rfl) rfl rfl (by omega) (by first | omega | (dsimp only; omega)) (by omega)) rfl (fun _ _ => ?_)
    rintro ⟨b17, rfl, rfl⟩
    refine ⟨.some (by repeat' (first | exact Cover.nil | exact Take.here | apply Cover.cons | apply Take.there)), ?_⟩
    refine m_eff rfl (e_make (by rfl) (by rfl) rfl rfl (by omega) (by first | omega | (dsimp only; omega)) (by omega)) rfl (fun _ _ => ?_)
    rintro ⟨b12, rfl, rfl⟩
    refine ⟨.some (by repeat' (first | exact Cover.nil | exact Take.here | apply Cover.cons | apply Take.there)), ?_⟩
    refine m_float0 rfl (fun _ _ => p_build (by rfl) rfl (by rfl)) rfl ?_
    refine m_eff rfl (e_box rfl (by rfl)) rfl (fun _ _ => ?_)
    rintro ⟨b26, rfl, rfl⟩
    refine ⟨.none (by kernel_rfl), ?_⟩
    refine m_float0 rfl (fun _ _ => p_assign rfl) rfl ?_
    refine m_nil ?_
    refine g_qn ?_
    exact g_joined (b26, b12, b17, b21) (by (repeat (first | exact trivial | refine ⟨by rfl, ?_⟩)); done) (by repeat' (first | exact Cover.nil | exact Take.here | apply Cover.cons | apply Take.there)) trivial
  rintro ⟨s, bv, bu, bx⟩ -
  dsimp only
  have e1 : ((n : Int) + 1).toNat = n + 1 := by omega
  have e2 : (2 * (n : Int) + 2).toNat = 2 * n + 2 := by omega
  have e3 : (F.length : Int).toNat = F.length := by omega
  rw [e1, e2, e3]
  refine g_fold (k := 2 * n + 2) (cap := 2 * n + 2) (size := 1) (g := bu) (xs := List.replicate (2 * n + 2) (.slice none 0 0)) (by repeat' (first | exact Take.here | apply Take.there)) (Nat.le_refl _) (by omega) (by simp) (List.take_of_length_le (by simp)) ?_
  refine g_nils (ei := 3) .here ?_
  rw [← usesV_nil]
  refine g_qt ?_
  refine g_seq ?_
  refine g_seq ?_
  refine g_region ?_
  refine g_pure (p_fieldAddr rfl) rfl ?_
  refine g_pure (p_load (by rfl) rfl (by first | (apply Has.own; (repeat' (first | exact Take.here | apply Take.there)); done) | exact Has.ro (by assumption)) (by first | rfl | assumption)) rfl ?_
  refine g_pure (p_len (by rfl) rfl) rfl ?_
  refine g_pure (p_move rfl) rfl ?_
  refine g_nil ?_
  refine g_qt ?_
  refine g_block ?_
  refine g_loop (fun i : Nat => [(3, .pointer (some ⟨s, 0, none⟩)), (28, .slice ca F.length cc), (29, .int .i64 F.length), (30, .int .i64 i)])
    (fun i => [Own2 39 3 (some ⟨bu, 0, none⟩) (2 * n + 2) (usesV n (F.take i)), Blk s (.cells [.int .i64 n, .slice ca F.length cc, .slice (some ⟨bv, 0, none⟩) (n + 1) (n + 1), .slice none 0 0, .slice (some ⟨bu, 0, none⟩) (2 * n + 2) (2 * n + 2), .slice (some ⟨bx, 0, none⟩) F.length F.length, .int .i64 F.length, .int .i64 0].toArray 83 (0, 0)),
      Blk bv (.cells (List.replicate (n + 1) (Value.int .i64 0)).toArray 3 (0, 0)), Blk bx (.cells (List.replicate F.length (Value.int .i64 0)).toArray 3 (0, 0))]) (fun i => i ≤ F.length) (fun i => F.length - i) 0 (Nat.zero_le _) (by (repeat (first | exact trivial | refine ⟨by rfl, ?_⟩)); done) (by repeat' (first | exact Cover.nil | exact Take.here | apply Cover.cons | apply Take.there)) ?_
  intro i hi
  refine g_seq ?_
  refine g_region ?_
  refine g_pure (p_lss rfl rfl) rfl ?_
  refine g_nil ?_
  refine g_qt ?_
  refine g_seq ?_
  refine g_ifd rfl (fun q => ?_) (fun q => ?_)
  · have hil : i < F.length := by omega
    obtain ⟨b, off, cs, T1, fz, r1, r2, r3⟩ := hF.at (by omega)
    obtain ⟨ai, ci, x1', _, bi, oi, ki, Ti, fi, w2⟩ := r3 i hil
    have x1 : cs[off + (i : Int).toNat * 1]? = some (.slice ai F[i].length ci) := x1'
    have hlits := hO.lits F[i] (List.getElem_mem hil)
    have hcl := hO.lens F[i] (List.getElem_mem hil)
    refine g_skip ?_
    refine g_qt ?_
    refine g_seq ?_
    refine g_block ?_
    refine g_seq ?_
    refine g_region ?_
    refine g_pure (p_move rfl) rfl ?_
    refine g_pure (p_indexAddr rfl rfl (by omega) (fun _ => r1)) rfl ?_
    refine g_pure (p_load (by rfl) rfl (Has.ro r2) x1) rfl ?_
    refine g_pure (p_assign rfl) rfl ?_
    refine g_pure (p_assign rfl) rfl ?_
    refine g_nil ?_
    refine g_qt ?_
    refine g_seq ?_
    refine g_region ?_
    refine g_pure (p_move rfl) rfl ?_
    refine g_pure (p_len (by rfl) rfl) rfl ?_
    refine g_pure (p_move rfl) rfl ?_
    refine g_nil ?_
    refine g_qt ?_
    refine g_block ?_
    refine g_loop (fun j : Nat => [(3, .pointer (some ⟨s, 0, none⟩)), (28, .slice ca F.length cc), (29, .int .i64 F.length), (30, .int .i64 i), (4, .int .i64 i), (35, .slice ai F[i].length ci), (36, .int .i64 F[i].length), (37, .int .i64 j)])
      (fun j => [Own2 39 3 (some ⟨bu, 0, none⟩) (2 * n + 2) (usesV n (F.take i ++ [F[i].take j])), Blk s (.cells [.int .i64 n, .slice ca F.length cc, .slice (some ⟨bv, 0, none⟩) (n + 1) (n + 1), .slice none 0 0, .slice (some ⟨bu, 0, none⟩) (2 * n + 2) (2 * n + 2), .slice (some ⟨bx, 0, none⟩) F.length F.length, .int .i64 F.length, .int .i64 0].toArray 83 (0, 0)),
        Blk bv (.cells (List.replicate (n + 1) (Value.int .i64 0)).toArray 3 (0, 0)), Blk bx (.cells (List.replicate F.length (Value.int .i64 0)).toArray 3 (0, 0))]) (fun j => j ≤ F[i].length) (fun j => F[i].length - j) 0 (Nat.zero_le _) (by (repeat (first | exact trivial | refine ⟨by rfl, ?_⟩)); done) (by rw [List.take_zero, usesV_empty]; exact (by repeat' (first | exact Cover.nil | exact Take.here | apply Cover.cons | apply Take.there))) ?_
    intro j hj
    refine g_seq ?_
    refine g_region ?_
    refine g_pure (p_lss rfl rfl) rfl ?_
    refine g_nil ?_
    refine g_qt ?_
    refine g_seq ?_
    refine g_ifd rfl (fun r => ?_) (fun r => ?_)
    · have hjl : j < F[i].length := by omega
      obtain ⟨w3, w4, w5⟩ := w2 (by omega)
      have x2 : ki[oi + (j : Int).toNat * 1]? = some (encI F[i][j]) := flat2 w5 (mapI _ hjl) (by simp)
      have hl := hlits F[i][j] (List.getElem_mem hjl)
      have hstep := fun r => usesV_step (n := n) (F.take i) (F[i].take j) (l := F[i][j]) hl (r := r)
      have hu := uix_lt hl
      have hget : (usesV n (F.take i ++ [F[i].take j]))[(uix F[i][j]).toNat]? = some ((useRow (F.take i ++ [F[i].take j]) (uix F[i][j])).map encN) := by
        rw [List.getElem?_eq_getElem (by rw [usesV_len]; omega), usesV_get _ (by omega), Int.toNat_of_nonneg hu.1]
      have hpre := useRow_pre F hil j (uix F[i][j])
      have hrl := hO.rows (uix F[i][j])
      have htk : F[i].take j ++ [F[i][j]] = F[i].take (j + 1) := by rw [List.take_add_one, List.getElem?_eq_getElem hjl, Option.toList_some]
      have hli : (F.take i).length = i := by rw [List.length_take]; omega
      rw [htk, hli] at hstep
      generalize hlk : F[i][j] = l at *
      generalize hcu : useRow (F.take i ++ [F[i].take j]) (uix l) = cu at *
      have hrw := usesV_len n (F.take i ++ [F[i].take j])
      generalize hrows : usesV n (F.take i ++ [F[i].take j]) = rows at *
      obtain ⟨h0, hl1, hl2⟩ := id hl
      refine g_skip ?_
      refine g_qt ?_
      refine g_seq ?_
      refine g_block ?_
      refine g_seq ?_
      refine g_region ?_
      refine g_pure (p_indexAddr rfl rfl (by omega) (fun _ => w3)) rfl ?_
      refine g_pure (p_load (by rfl) rfl (Has.ro w4) x2) rfl ?_
      refine g_pure (p_assign rfl) rfl ?_
      refine g_nil ?_
      refine g_qt ?_
      refine g_open2 .here ?_
      intro hs hhs
      have huj : (uix l).toNat < rows.length := by omega
      have xh := hdrs_at hhs huj
      rw [List.getElem?_eq_getElem huj] at hget
      have hget := Option.some.inj hget
      refine g_rowA hhs huj (.there .here) ?_
      rw [hget]
      have hlen2 : (hdrs hs rows).length = rows.length := hdrs_len hhs
      have hset := fun g r => hdrs_set (hs := hs) (rows := rows) (uix l).toNat g r
      rw [hget] at xh
      generalize hhj : hs[(uix l).toNat]'(by omega) = hh0 at *
      obtain ⟨ra, rc⟩ := hh0
      refine g_own (e := 39) (size := 1) (a1 := some ⟨bu, 0, none⟩) (k := rows.length) (.there (.there .here)) (fun h _ _ _ => by cases h) ?_
      rintro gu curu hgu y1 y2 y3 y4 y5
      cases hgu
      have xu : curu[0 + (uix l).toNat * 1]? = some (.slice ra (cu.map encN).length rc) := own_at (k := (uix l).toNat) y4 rfl xh
      generalize hcn : cu.map encN = crow at *
      have hcl2 : crow.length = cu.length := by rw [← hcn, List.length_map]
      refine g_join (fun y : Option Addr × Nat => [(3, .pointer (some ⟨s, 0, none⟩)), (28, .slice ca F.length cc), (29, .int .i64 F.length), (30, .int .i64 i), (4, .int .i64 i), (35, .slice ai F[i].length ci), (36, .int .i64 F[i].length), (37, .int .i64 j)])
        (fun y => [Blk bu (.cells (curu.set (0 + (uix l).toNat * 1) (.slice y.1 (crow.length + 1) y.2)).toArray 39 (0, 0)), OwnSl 3 1 y.1 (crow.length + 1) y.2 (crow ++ [encN i]), Al ((inns 3 hs rows).eraseIdx (uix l).toNat), Blk s (.cells [.int .i64 n, .slice ca F.length cc, .slice (some ⟨bv, 0, none⟩) (n + 1) (n + 1), .slice none 0 0, .slice (some ⟨bu, 0, none⟩) (2 * n + 2) (2 * n + 2), .slice (some ⟨bx, 0, none⟩) F.length F.length, .int .i64 F.length, .int .i64 0].toArray 83 (0, 0)),
        Blk bv (.cells (List.replicate (n + 1) (Value.int .i64 0)).toArray 3 (0, 0)), Blk bx (.cells (List.replicate F.length (Value.int .i64 0)).toArray 3 (0, 0))]) (fun _ => True) ?_ ?_
      · refine m_begin (.fl 0 0 (.fl 1 0 (.fl 2 0 (.fl 3 1 (.fl 4 0 (.fl 6 0 (.fl 7 0 (.fl 8 0 (.fl 9 1 (.fl 10 0 (.fl 14 0 (.or (.ef 5 (.or (.ef 11 (.fl 12 0 (.fl 13 1 (.ef 15 (.ef 16 (.fl 17 0 (.ef 18 .done))))))) (.ef 15 (.ef 11 (.fl 12 0 (.fl 13 1 (.ef 16 (.fl 17 0 (.ef 18 .done))))))))) (.ef 15 (.ef 5 (.ef 11 (.fl 12 0 (.fl 13 1 (.ef 16 (.fl 17 0 (.ef 18 .done)))))))))))))))))))) [Blk bu (.cells curu.toArray 39 (0, 0)), Blk s (.cells [.int .i64 n, .slice ca F.length cc, .slice (some ⟨bv, 0, none⟩) (n + 1) (n + 1), .slice none 0 0, .slice (some ⟨bu, 0, none⟩) (2 * n + 2) (2 * n + 2), .slice (some ⟨bx, 0, none⟩) F.length F.length, .int .i64 F.length, .int .i64 0].toArray 83 (0, 0))] (by kernel_rfl) (by kernel_rfl) (by repeat' (first | exact Cover.nil | exact Take.here | apply Cover.cons | apply Take.there)) ?_
        refine m_float0 rfl (fun _ _ => p_move rfl) rfl ?_
        refine m_float0 rfl (fun _ _ => p_nilCheck rfl) rfl ?_
        refine m_float0 rfl (fun _ _ => p_fieldAddr rfl) rfl ?_
        refine m_float rfl (p_load (by rfl) rfl (by first | (apply Has.own; (repeat' (first | exact Take.here | apply Take.there)); done) | exact Has.ro (by assumption)) (by first | rfl | assumption)) rfl ?_
        refine m_float0 rfl (fun _ _ => p_move rfl) rfl ?_
        refine m_float0 rfl (fun _ _ => p_move rfl) rfl ?_
        refine m_float0 rfl (fun _ _ => p_nilCheck rfl) rfl ?_
        refine m_float0 rfl (fun _ _ => p_fieldAddr rfl) rfl ?_
        refine m_float rfl (p_load (by rfl) rfl (by first | (apply Has.own; (repeat' (first | exact Take.here | apply Take.there)); done) | exact Has.ro (by assumption)) (by first | rfl | assumption)) rfl ?_
        refine m_float0 rfl (fun _ _ => p_move rfl) rfl ?_
        refine m_float0 rfl (fun _ _ => p_move rfl) rfl ?_
        refine m_or ?_ ?_
        · refine m_call (Hin := []) (Hr := ?hr1) (R := ?rr1) rfl wantedN rfl rfl rfl ?hin1 ?hc1 ?hk1
          case hin1 => repeat' (first | exact Cover.nil | exact Take.here | apply Cover.cons | apply Take.there)
          case hc1 => intro ρ' hρ hR; exact index_ok l (by omega)
          rintro _ _ ⟨rfl, rfl⟩
          refine ⟨.some (by repeat' (first | exact Cover.nil | exact Take.here | apply Cover.cons | apply Take.there)), ?_⟩
          refine m_or ?_ ?_
          · refine m_call (Hin := []) (Hr := ?hr2) (R := ?rr2) rfl wantedN rfl rfl rfl ?hin2 ?hc2 ?hk2
            case hin2 => repeat' (first | exact Cover.nil | exact Take.here | apply Cover.cons | apply Take.there)
            case hc2 => intro ρ' hρ hR; exact index_ok l (by omega)
            rintro _ _ ⟨rfl, rfl⟩
            refine ⟨.some (by repeat' (first | exact Cover.nil | exact Take.here | apply Cover.cons | apply Take.there)), ?_⟩
            refine m_float0 rfl (fun _ _ => p_indexAddr rfl rfl (by omega) (fun _ => rfl)) rfl ?_
            refine m_float rfl (p_load (by rfl) rfl (Has.own (by repeat' (first | exact Take.here | apply Take.there))) xu) rfl ?_
            refine m_eff rfl (e_bs (xs := [.tmp 55]) rfl rfl rfl (by rfl) (by rfl) rfl (by rfl)) rfl (fun _ _ => ?_)
            rintro ⟨b56, rfl, rfl⟩
            refine ⟨.some (by repeat' (first | exact Cover.nil | exact Take.here | apply Cover.cons | apply Take.there)), ?_⟩
            refine m_eff rfl (e_appendO (by rfl) (by rfl) rfl rfl (by first | (apply Has.own; (repeat' (first | exact Take.here | apply Take.there)); done) | exact Has.ro (by assumption)) (by rfl) (by rfl) (by repeat' (first | exact Take.here | apply Take.there)) (by omega) (by first | omega | (dsimp only; omega) | (simp <;> omega)) (by omega)) rfl (fun _ _ => ?_)
            rintro ⟨a57, c57, rfl, rfl⟩
            refine ⟨.some (by repeat' (first | exact Cover.nil | exact Take.here | apply Cover.cons | apply Take.there)), ?_⟩
            refine m_float0 rfl (fun _ _ => p_indexAddr rfl rfl (by omega) (fun _ => rfl)) rfl ?_
            refine m_eff0 rfl (e_store1 (by rfl) rfl rfl rfl (by repeat' (first | exact Take.here | apply Take.there)) (by simp; omega)) (fun _ _ => ?_)
            rintro rfl
            refine ⟨.none (by kernel_rfl), ?_⟩
            refine m_nil ?_
            refine g_qn ?_
            exact g_joined (a57, c57) (by (repeat (first | exact trivial | refine ⟨by rfl, ?_⟩)); done) (by repeat' (first | exact Cover.nil | exact Take.here | apply Cover.cons | apply Take.there)) trivial
          refine m_eff rfl (e_bs (xs := [.tmp 55]) rfl rfl rfl (by rfl) (by rfl) rfl (by rfl)) rfl (fun _ _ => ?_)
          rintro ⟨b56, rfl, rfl⟩
          refine ⟨.some (by repeat' (first | exact Cover.nil | exact Take.here | apply Cover.cons | apply Take.there)), ?_⟩
          refine m_call (Hin := []) (Hr := ?hr3) (R := ?rr3) rfl wantedN rfl rfl rfl ?hin3 ?hc3 ?hk3
          case hin3 => repeat' (first | exact Cover.nil | exact Take.here | apply Cover.cons | apply Take.there)
          case hc3 => intro ρ' hρ hR; exact index_ok l (by omega)
          rintro _ _ ⟨rfl, rfl⟩
          refine ⟨.some (by repeat' (first | exact Cover.nil | exact Take.here | apply Cover.cons | apply Take.there)), ?_⟩
          refine m_float0 rfl (fun _ _ => p_indexAddr rfl rfl (by omega) (fun _ => rfl)) rfl ?_
          refine m_float rfl (p_load (by rfl) rfl (Has.own (by repeat' (first | exact Take.here | apply Take.there))) xu) rfl ?_
          refine m_eff rfl (e_appendO (by rfl) (by rfl) rfl rfl (by first | (apply Has.own; (repeat' (first | exact Take.here | apply Take.there)); done) | exact Has.ro (by assumption)) (by rfl) (by rfl) (by repeat' (first | exact Take.here | apply Take.there)) (by omega) (by first | omega | (dsimp only; omega) | (simp <;> omega)) (by omega)) rfl (fun _ _ => ?_)
          rintro ⟨a57, c57, rfl, rfl⟩
          refine ⟨.some (by repeat' (first | exact Cover.nil | exact Take.here | apply Cover.cons | apply Take.there)), ?_⟩
          refine m_float0 rfl (fun _ _ => p_indexAddr rfl rfl (by omega) (fun _ => rfl)) rfl ?_
          refine m_eff0 rfl (e_store1 (by rfl) rfl rfl rfl (by repeat' (first | exact Take.here | apply Take.there)) (by simp; omega)) (fun _ _ => ?_)
          rintro rfl
          refine ⟨.none (by kernel_rfl), ?_⟩
          refine m_nil ?_
          refine g_qn ?_
          exact g_joined (a57, c57) (by (repeat (first | exact trivial | refine ⟨by rfl, ?_⟩)); done) (by repeat' (first | exact Cover.nil | exact Take.here | apply Cover.cons | apply Take.there)) trivial
        refine m_eff rfl (e_bs (xs := [.tmp 55]) rfl rfl rfl (by rfl) (by rfl) rfl (by rfl)) rfl (fun _ _ => ?_)
        rintro ⟨b56, rfl, rfl⟩
        refine ⟨.some (by repeat' (first | exact Cover.nil | exact Take.here | apply Cover.cons | apply Take.there)), ?_⟩
        refine m_call (Hin := []) (Hr := ?hr4) (R := ?rr4) rfl wantedN rfl rfl rfl ?hin4 ?hc4 ?hk4
        case hin4 => repeat' (first | exact Cover.nil | exact Take.here | apply Cover.cons | apply Take.there)
        case hc4 => intro ρ' hρ hR; exact index_ok l (by omega)
        rintro _ _ ⟨rfl, rfl⟩
        refine ⟨.some (by repeat' (first | exact Cover.nil | exact Take.here | apply Cover.cons | apply Take.there)), ?_⟩
        refine m_call (Hin := []) (Hr := ?hr5) (R := ?rr5) rfl wantedN rfl rfl rfl ?hin5 ?hc5 ?hk5
        case hin5 => repeat' (first | exact Cover.nil | exact Take.here | apply Cover.cons | apply Take.there)
        case hc5 => intro ρ' hρ hR; exact index_ok l (by omega)
        rintro _ _ ⟨rfl, rfl⟩
        refine ⟨.some (by repeat' (first | exact Cover.nil | exact Take.here | apply Cover.cons | apply Take.there)), ?_⟩
        refine m_float0 rfl (fun _ _ => p_indexAddr rfl rfl (by omega) (fun _ => rfl)) rfl ?_
        refine m_float rfl (p_load (by rfl) rfl (Has.own (by repeat' (first | exact Take.here | apply Take.there))) xu) rfl ?_
        refine m_eff rfl (e_appendO (by rfl) (by rfl) rfl rfl (by first | (apply Has.own; (repeat' (first | exact Take.here | apply Take.there)); done) | exact Has.ro (by assumption)) (by rfl) (by rfl) (by repeat' (first | exact Take.here | apply Take.there)) (by omega) (by first | omega | (dsimp only; omega) | (simp <;> omega)) (by omega)) rfl (fun _ _ => ?_)
        rintro ⟨a57, c57, rfl, rfl⟩
        refine ⟨.some (by repeat' (first | exact Cover.nil | exact Take.here | apply Cover.cons | apply Take.there)), ?_⟩
        refine m_float0 rfl (fun _ _ => p_indexAddr rfl rfl (by omega) (fun _ => rfl)) rfl ?_
        refine m_eff0 rfl (e_store1 (by rfl) rfl rfl rfl (by repeat' (first | exact Take.here | apply Take.there)) (by simp; omega)) (fun _ _ => ?_)
        rintro rfl
        refine ⟨.none (by kernel_rfl), ?_⟩
        refine m_nil ?_
        refine g_qn ?_
        exact g_joined (a57, c57) (by (repeat (first | exact trivial | refine ⟨by rfl, ?_⟩)); done) (by repeat' (first | exact Cover.nil | exact Take.here | apply Cover.cons | apply Take.there)) trivial
      rintro ⟨a57, c57⟩ -
      dsimp only
      refine g_qb ?_
      refine g_qt ?_
      refine g_region ?_
      first | refine g_pure (p_addi rfl rfl (by omega)) rfl ?_ | refine g_pure (p_add rfl rfl) rfl ?_
      refine g_pure (p_move rfl) rfl ?_
      refine g_nil ?_
      refine g_qn ?_
      have hst := hstep (crow ++ [encN i]) rfl
      refine g_fold (k := (rows.set (uix l).toNat (crow ++ [encN i])).length) (cap := 2 * n + 2) (size := 1) (g := bu) (xs := hdrs (hs.set (uix l).toNat (a57, c57)) (rows.set (uix l).toNat (crow ++ [encN i]))) .here (by simp; omega) y2 (by simp; omega) ?_ ?_
      · rw [hset, List.length_set]
        refine set_take y4 ?_
        rw [show 0 + (uix l).toNat * 1 = (uix l).toNat by omega]
        congr 1
        simp [hdr]
      refine g_unrowA (a := a57) (c := c57) (r := crow ++ [encN i]) hhs huj (by simp only [List.length_append, List.length_singleton]; exact (by repeat' (first | exact Take.here | apply Take.there))) (by repeat' (first | exact Take.here | apply Take.there)) ?_
      refine g_close2 (hs := hs.set (uix l).toNat (a57, c57)) (rows := rows.set (uix l).toNat (crow ++ [encN i])) (by simp; omega) (by repeat' (first | exact Take.here | apply Take.there)) (by repeat' (first | exact Take.here | apply Take.there)) ?_
      rw [hst]
      exact g_next (j + 1) (by (repeat (first | exact trivial | refine ⟨by rfl, ?_⟩)); done) (by repeat' (first | exact Cover.nil | exact Take.here | apply Cover.cons | apply Take.there)) (by omega) (by omega)
    · have hje : j = F[i].length := by omega
      rw [hje, List.take_length, show F.take i ++ [F[i]] = F.take (i + 1) by rw [List.take_add_one, List.getElem?_eq_getElem hil, Option.toList_some]]
      refine g_exit ?_
      refine g_qt_exit ?_
      refine g_qn_exit ?_
      refine g_qb_exit ?_
      refine g_qb ?_
      refine g_qt ?_
      refine g_region ?_
      first | refine g_pure (p_addi rfl rfl (by omega)) rfl ?_ | refine g_pure (p_add rfl rfl) rfl ?_
      refine g_pure (p_move rfl) rfl ?_
      refine g_nil ?_
      refine g_qn ?_
      exact g_next (i + 1) (by (repeat (first | exact trivial | refine ⟨by rfl, ?_⟩)); done) (by repeat' (first | exact Cover.nil | exact Take.here | apply Cover.cons | apply Take.there)) (by omega) (by omega)
  · have hie : i = F.length := by omega
    rw [hie, List.take_length]
    refine g_exit ?_
    refine g_qt_exit ?_
    refine g_qn_exit ?_
    refine g_qb_exit ?_
    refine g_qt ?_
    refine g_seq ?_
    refine g_region ?_
    refine g_pure (p_move rfl) rfl ?_
    refine g_pure (p_assign rfl) rfl ?_
    refine g_nil ?_
    refine g_qt ?_
    refine g_ret ?_
    refine g_fold (k := n + 1) (cap := n + 1) (size := 1) (g := bv) (xs := List.replicate (n + 1) (Value.int .i64 0)) (by repeat' (first | exact Take.here | apply Take.there)) (Nat.le_refl _) (by omega) (by simp) (List.take_of_length_le (by simp)) ?_
    refine g_fold (k := F.length) (cap := F.length) (size := 1) (g := bx) (xs := List.replicate F.length (Value.int .i64 0)) (by repeat' (first | exact Take.here | apply Take.there)) (Nat.le_refl _) (by omega) (by simp) (List.take_of_length_le (by simp)) ?_
    refine g_ownnil (e := 3) (size := 1) ?_
    refine sv_close (p := ⟨n, ca, cc, F.length, some ⟨bu, 0, none⟩, 2 * n + 2⟩) (V := fun _ => none) (T := []) (X := trues F (fun _ => none)) (d := 0) (e := F.length) (xs1 := List.replicate (n + 1) (Value.int .i64 0)) (xs3 := List.replicate F.length (Value.int .i64 0)) (xs2 := []) (k1 := 0) (d' := 0) (by repeat' (first | exact Cover.nil | exact Take.here | apply Cover.cons | apply Take.there)) rfl (by rw [trues_none, List.count_replicate_self]) rfl (vcells_none n).symm rfl (by rw [trues_none, List.map_replicate]; rfl) ?_
    exact g_post (rs := [.tmp 2]) rfl (.tmp rfl .nil) ⟨s, ⟨n, ca, cc, F.length, some ⟨bu, 0, none⟩, 2 * n + 2⟩, rfl, rfl, rfl, rfl, rfl⟩ (by repeat' (first | exact Cover.nil | exact Take.here | apply Cover.cons | apply Take.there))
end Go.Proofs.YtopgbgnmjogeeaaDoor
/- Chapter 37: Solve. Conditions: none. -/
namespace Go.Z.Sat
set_option maxRecDepth 8000
set_option linter.unusedVariables false
set_option linter.unusedSimpArgs false
set_option linter.unusedSectionVars false
open Go Go.Z Go.Proofs.YtopgbgnmjogeeaaDoor
/-- what Solve answers -/
def Sol (n : Int) (F : Fm) (bud : Int) (code : Int) (cells : List Value) (e : Int) : Prop :=
  (bud < 0 ∧ code = 0 ∧ cells = [] ∧ e = 2) ∨ (0 ≤ bud ∧ check1 n F ≠ 0 ∧ code = 0 ∧ cells = [] ∧ e = check1 n F) ∨
  (0 ≤ bud ∧ check1 n F = 0 ∧ e = 0 ∧ ∃ r, Sat.Reach F n.toNat bud (fun _ => none) [] 0 r ∧ code = ocode r ∧ cells = ocells n.toNat r)
theorem check1_nonneg {n : Int} {F : Fm} (h : check1 n F = 0) : 0 ≤ n ∧ n ≤ 262144 := by
  unfold check1 at h
  split at h
  · cases h
  · split at h
    · cases h
    · omega
theorem Sol.unique {n : Int} {F : Fm} {bud c1 c2 e1 e2 : Int} {x1 x2 : List Value} (hO : check1 n F = 0 → okF n.toNat F) (h : Sol n F bud c1 x1 e1) (k : Sol n F bud c2 x2 e2) : c1 = c2 ∧ x1 = x2 ∧ e1 = e2 := by
  rcases h with ⟨h1, rfl, rfl, rfl⟩ | ⟨h1, h2, rfl, rfl, rfl⟩ | ⟨h1, h2, rfl, r, h3, rfl, rfl⟩
  · rcases k with ⟨k1, rfl, rfl, rfl⟩ | ⟨k1, k2, rfl, rfl, rfl⟩ | ⟨k1, k2, rfl, s, k3, rfl, rfl⟩
    · exact ⟨rfl, rfl, rfl⟩
    · omega
    · omega
  · rcases k with ⟨k1, rfl, rfl, rfl⟩ | ⟨k1, k2, rfl, rfl, rfl⟩ | ⟨k1, k2, rfl, s, k3, rfl, rfl⟩
    · omega
    · exact ⟨rfl, rfl, rfl⟩
    · exact absurd k2 h2
  · rcases k with ⟨k1, rfl, rfl, rfl⟩ | ⟨k1, k2, rfl, rfl, rfl⟩ | ⟨k1, k2, rfl, s, k3, rfl, rfl⟩
    · omega
    · exact absurd h2 k2
    · cases h3.unique (hO h2) k3; exact ⟨rfl, rfl, rfl⟩
end Go.Z.Sat
namespace Go.Proofs.YtopgbgnmjogeeaaDoor
set_option maxRecDepth 8000
set_option linter.unusedVariables false
set_option linter.unusedSimpArgs false
set_option linter.unusedSectionVars false
open Go Go.Z Go.Z.Sat

def SolP (n : Int) (F : Fm) (bud : Int) (v : Value) (H : List Assn) : Prop := ∃ code cells a c e, Sol n F bud code cells e ∧ v = .tuple #[.int .i64 code, .slice a cells.length c, .int .i64 e] ∧ H = [OwnSl 4 1 a cells.length c cells]

theorem solve_ok {ρ : Nat → Obj → Prop} (n : Int) (hn : I64 n) (ca : Option Addr) (cc : Nat) (F : Fm) (hF : FmR ρ ca F) (hO : check1 n F = 0 → Ok n.toNat F) (bud : Int) (hb : I64 bud) :
    Con Tryd.prog ρ 9 #[.agg #[.int .i64 n, .slice ca F.length cc], .int .i64 bud] [] (SolP n F bud) := by
  have hcases : check1 n F = 0 ∨ check1 n F ≠ 0 := Decidable.em _
  refine con_intro Tryd.func9 Tryd.call9 rfl Tryd.ntmps9 rfl (L := [(0, _), (1, _)]) rfl fun w hh => ?_
  refine g_seq ?_
  refine g_region ?_
  refine g_eff (e_box rfl (by rfl)) rfl (fun _ _ => ?_)
  rintro ⟨b2, rfl, rfl⟩
  refine g_pure (p_assign rfl) rfl ?_
  refine g_pure (p_assign rfl) rfl ?_
  refine g_pure (p_assign rfl) rfl ?_
  refine g_nil ?_
  refine g_qt ?_
  refine g_seq ?_
  refine g_seq ?_
  refine g_region ?_
  refine g_pure (p_move rfl) rfl ?_
  refine g_pure (p_lss rfl rfl) rfl ?_
  refine g_nil ?_
  refine g_qt ?_
  refine g_ifd rfl (fun q => ?_) (fun q => ?_)
  · refine g_seq ?_
    refine g_region ?_
    refine g_pure (p_assign rfl) rfl ?_
    refine g_pure (p_assign rfl) rfl ?_
    refine g_pure (p_assign rfl) rfl ?_
    refine g_nil ?_
    refine g_qt ?_
    refine g_ret ?_
    refine g_qt_ret ?_
    refine g_ownnil (e := 4) (size := 1) ?_
    exact g_post (rs := [.tmp 4, .tmp 5, .tmp 6]) rfl (.tmp rfl (.tmp rfl (.tmp rfl .nil))) ⟨0, [], none, 0, 2, .inl ⟨q, rfl, rfl, rfl⟩, rfl, rfl⟩ (by repeat' (first | exact Cover.nil | exact Take.here | apply Cover.cons | apply Take.there))
  · refine g_skip ?_
    refine g_qt ?_
    refine g_seq ?_
    refine g_seq ?_
    refine g_region ?_
    first | refine g_pure (p_loadO (by rfl) rfl (by first | (apply Has.own; (repeat' (first | exact Take.here | apply Take.there)); done) | exact Has.ro (by assumption)) (by rfl)) rfl ?_ | refine g_pure (p_loadN (by rfl) rfl (by first | (apply Has.own; (repeat' (first | exact Take.here | apply Take.there)); done) | exact Has.ro (by assumption)) (by first | rfl | assumption)) rfl ?_
    refine g_call (Hin := []) (Hr := ?hr1) (R := ?rr1) rfl rfl rfl ?hin1 ?hc1 ?hk1
    case hin1 => repeat' (first | exact Cover.nil | exact Take.here | apply Cover.cons | apply Take.there)
    case hc1 => intro ρ' hρ hR; exact check_ok n hn ca cc F (hF.mono hρ)
    rintro _ _ ⟨rfl, rfl⟩
    refine g_pure (p_assign rfl) rfl ?_
    refine g_nil ?_
    refine g_qt ?_
    refine g_seq ?_
    refine g_region ?_
    refine g_pure (p_move rfl) rfl ?_
    refine g_pure (p_neq rfl rfl) rfl ?_
    refine g_nil ?_
    refine g_qt ?_
    refine g_ifnd rfl (fun c => ?_) (fun c => ?_)
    · refine g_seq ?_
      refine g_region ?_
      refine g_pure (p_move rfl) rfl ?_
      refine g_pure (p_assign rfl) rfl ?_
      refine g_pure (p_assign rfl) rfl ?_
      refine g_pure (p_assign rfl) rfl ?_
      refine g_nil ?_
      refine g_qt ?_
      refine g_ret ?_
      refine g_qt_ret ?_
      refine g_ownnil (e := 4) (size := 1) ?_
      exact g_post (rs := [.tmp 4, .tmp 5, .tmp 6]) rfl (.tmp rfl (.tmp rfl (.tmp rfl .nil))) ⟨0, [], none, 0, check1 n F, .inr (.inl ⟨by omega, c, rfl, rfl, rfl⟩), rfl, rfl⟩ (by repeat' (first | exact Cover.nil | exact Take.here | apply Cover.cons | apply Take.there))
    · have hO' := hO c
      have hnn := check1_nonneg c
      obtain ⟨m, rfl⟩ : ∃ m : Nat, n = m := ⟨n.toNat, by omega⟩
      rw [Int.toNat_natCast] at hO'
      refine g_skip ?_
      refine g_qt ?_
      refine g_seq ?_
      refine g_region ?_
      first | refine g_pure (p_loadO (by rfl) rfl (by first | (apply Has.own; (repeat' (first | exact Take.here | apply Take.there)); done) | exact Has.ro (by assumption)) (by rfl)) rfl ?_ | refine g_pure (p_loadN (by rfl) rfl (by first | (apply Has.own; (repeat' (first | exact Take.here | apply Take.there)); done) | exact Has.ro (by assumption)) (by first | rfl | assumption)) rfl ?_
      refine g_call (Hin := []) (Hr := ?hr2) (R := ?rr2) rfl rfl rfl ?hin2 ?hc2 ?hk2
      case hin2 => repeat' (first | exact Cover.nil | exact Take.here | apply Cover.cons | apply Take.there)
      case hc2 => intro ρ' hρ hR; exact snew_ok hO' ca cc (hF.mono hρ)
      rintro _ _ ⟨s, p, hp1, hp2, hp3, rfl, rfl⟩
      subst hp1
      subst hp3
      unfold I64 at hb
      refine g_pure (p_move rfl) rfl ?_
      refine g_call (Hin := [Sv s p (fun _ => none) [] (trues F (fun _ => none)) 0]) (Hr := ?hr3) (R := ?rr3) rfl rfl rfl ?hin3 ?hc3 ?hk3
      case hin3 => repeat' (first | exact Cover.nil | exact Take.here | apply Cover.cons | apply Take.there)
      case hc3 => intro ρ' hρ hR; exact search_ok hO' hp2 (Own2.ro hR.1) (hF.mono hρ) bud (by omega)
      rintro _ _ ⟨r, am, cm, hr, rfl, rfl⟩
      refine g_pure (p_move rfl) rfl ?_
      refine g_pure (p_extract rfl rfl) rfl ?_
      refine g_pure (p_extract rfl rfl) rfl ?_
      refine g_pure (p_assign rfl) rfl ?_
      refine g_pure (p_assign rfl) rfl ?_
      refine g_nil ?_
      refine g_qt ?_
      refine g_seq ?_
      refine g_region ?_
      refine g_pure (p_move rfl) rfl ?_
      refine g_pure (p_move rfl) rfl ?_
      refine g_pure (p_assign rfl) rfl ?_
      refine g_pure (p_assign rfl) rfl ?_
      refine g_pure (p_assign rfl) rfl ?_
      refine g_nil ?_
      refine g_qt ?_
      refine g_ret ?_
      exact g_post (rs := [.tmp 4, .tmp 5, .tmp 6]) rfl (.tmp rfl (.tmp rfl (.tmp rfl .nil))) ⟨ocode r, ocells p.n r, am, cm, 0, .inr (.inr ⟨by omega, c, rfl, r, by rw [Int.toNat_natCast]; exact hr, rfl, by rw [Int.toNat_natCast]⟩), rfl, rfl⟩ (by repeat' (first | exact Cover.nil | exact Take.here | apply Cover.cons | apply Take.there))
end Go.Proofs.YtopgbgnmjogeeaaDoor
/- Chapter 37: Unit. Conditions: none. -/
namespace Go.Z.Sat
set_option maxRecDepth 8000
set_option linter.unusedVariables false
set_option linter.unusedSimpArgs false
set_option linter.unusedSectionVars false
open Go Go.Z Go.Proofs.YtopgbgnmjogeeaaDoor
def ulit (b : As) (i : Nat) : List Int := match b (i + 1) with
  | some true => [((i + 1 : Nat) : Int)]
  | some false => [-((i + 1 : Nat) : Int)]
  | none => []
def ulits (n : Nat) (b : As) : List Int := (List.range n).flatMap (ulit b)
theorem ulits_succ (n : Nat) (b : As) : ulits (n + 1) b = ulits n b ++ ulit b n := by simp [ulits, List.range_succ]
theorem ulits_len (n : Nat) (b : As) : (ulits n b).length ≤ n := by
  induction n with
  | zero => simp [ulits]
  | succ n ih =>
    rw [ulits_succ, List.length_append]
    have : (ulit b n).length ≤ 1 := by unfold ulit; split <;> simp
    omega
def uout (n : Nat) : Option As → List Int
  | none => []
  | some b => ulits n b
def UR (F : Fm) (ls : List Int) (r : Option As) : Prop := ((setF (fun _ => none) [] ls).1 = false ∧ r = none) ∨ ((setF (fun _ => none) [] ls).1 = true ∧ PR F (setF (fun _ => none) [] ls).2.1 r)
/-- what Unit answers -/
def UnS (n : Int) (F : Fm) (ls : List Int) (out : List Int) (ok : Bool) (e : Int) : Prop :=
  (check1 n F ≠ 0 ∧ out = [] ∧ ok = false ∧ e = check1 n F) ∨ (check1 n F = 0 ∧ ls.all (okB n) = false ∧ out = [] ∧ ok = false ∧ e = 14) ∨
  (check1 n F = 0 ∧ ls.all (okB n) = true ∧ e = 0 ∧ ∃ r, UR F ls r ∧ out = uout n.toNat r ∧ ok = r.isSome)
theorem UR.unique {n : Nat} {F : Fm} (hF : okF n F) {ls : List Int} {r s : Option As} (h : UR F ls r) (k : UR F ls s) : r = s := by
  rcases h with ⟨h1, rfl⟩ | ⟨h1, h2⟩ <;> rcases k with ⟨k1, rfl⟩ | ⟨k1, k2⟩
  · rfl
  · rw [h1] at k1; cases k1
  · rw [h1] at k1; cases k1
  · exact h2.unique hF k2
theorem UnS.unique {n : Int} {F : Fm} {ls o1 o2 : List Int} {b1 b2 : Bool} {e1 e2 : Int} (hO : check1 n F = 0 → okF n.toNat F) (h : UnS n F ls o1 b1 e1) (k : UnS n F ls o2 b2 e2) : o1 = o2 ∧ b1 = b2 ∧ e1 = e2 := by
  rcases h with ⟨h1, rfl, rfl, rfl⟩ | ⟨h1, h2, rfl, rfl, rfl⟩ | ⟨h1, h2, rfl, r, h3, rfl, rfl⟩
  · rcases k with ⟨k1, rfl, rfl, rfl⟩ | ⟨k1, k2, rfl, rfl, rfl⟩ | ⟨k1, k2, rfl, s, k3, rfl, rfl⟩
    · exact ⟨rfl, rfl, rfl⟩
    · exact absurd k1 h1
    · exact absurd k1 h1
  · rcases k with ⟨k1, rfl, rfl, rfl⟩ | ⟨k1, k2, rfl, rfl, rfl⟩ | ⟨k1, k2, rfl, s, k3, rfl, rfl⟩
    · exact absurd h1 k1
    · exact ⟨rfl, rfl, rfl⟩
    · rw [h2] at k2; cases k2
  · rcases k with ⟨k1, rfl, rfl, rfl⟩ | ⟨k1, k2, rfl, rfl, rfl⟩ | ⟨k1, k2, rfl, s, k3, rfl, rfl⟩
    · exact absurd h1 k1
    · rw [h2] at k2; cases k2
    · cases h3.unique (hO h1) k3; exact ⟨rfl, rfl, rfl⟩
theorem setF_ti {n : Nat} : ∀ (ls : List Int) (V : As) (T : List Int), TI n V T → (∀ l ∈ ls, okL n l) → TI n (setF V T ls).2.1 (setF V T ls).2.2
  | [], V, T, h, _ => h
  | l :: ls, V, T, h, hl => by
    rw [setF_cons]
    cases hv : lv V l with
    | none => exact setF_ti ls _ _ (h.set (hl l (by simp)) hv) fun x hx => hl x (by simp [hx])
    | some y => cases y with
      | true => exact setF_ti ls _ _ h fun x hx => hl x (by simp [hx])
      | false => exact h
theorem okB_okL {n : Nat} {l : Int} (h : okB n l = true) : okL n l := by
  unfold okB at h
  simp at h
  exact ⟨h.1, by omega, by omega⟩
end Go.Z.Sat
namespace Go.Proofs.YtopgbgnmjogeeaaDoor
set_option maxRecDepth 8000
set_option linter.unusedVariables false
set_option linter.unusedSimpArgs false
set_option linter.unusedSectionVars false
open Go Go.Z Go.Z.Sat

def UnP (n : Int) (F : Fm) (ls : List Int) (v : Value) (H : List Assn) : Prop := ∃ out a c ok e, UnS n F ls out ok e ∧ v = .tuple #[.slice a out.length c, .bool ok, .int .i64 e] ∧ H = [OwnSl 3 1 a out.length c (out.map encI)]

theorem unit_ok {ρ : Nat → Obj → Prop} (n : Int) (hn : I64 n) (ca : Option Addr) (cc : Nat) (F : Fm) (hF : FmR ρ ca F) (hO : check1 n F = 0 → Ok n.toNat F) (la : Option Addr) (lc : Nat) (ls : List Int) (hls : RSl ρ 1 la ls.length (ls.map encI)) (hlen : ls.length ≤ 9223372036854775806) (hI : ∀ l ∈ ls, I64 l) :
    Con Tryd.prog ρ 16 #[.agg #[.int .i64 n, .slice ca F.length cc], .slice la ls.length lc] [] (UnP n F ls) := by
  refine con_intro Tryd.func16 Tryd.call16 rfl Tryd.ntmps16 rfl (L := [(0, _), (1, _)]) rfl fun w hh => ?_
  refine g_seq ?_
  refine g_region ?_
  refine g_eff (e_box rfl (by rfl)) rfl (fun _ _ => ?_)
  rintro ⟨b2, rfl, rfl⟩
  refine g_pure (p_assign rfl) rfl ?_
  refine g_pure (p_assign rfl) rfl ?_
  refine g_pure (p_assign rfl) rfl ?_
  refine g_nil ?_
  refine g_qt ?_
  refine g_seq ?_
  refine g_seq ?_
  refine g_region ?_
  first | refine g_pure (p_loadO (by rfl) rfl (by first | (apply Has.own; (repeat' (first | exact Take.here | apply Take.there)); done) | exact Has.ro (by assumption)) (by rfl)) rfl ?_ | refine g_pure (p_loadN (by rfl) rfl (by first | (apply Has.own; (repeat' (first | exact Take.here | apply Take.there)); done) | exact Has.ro (by assumption)) (by first | rfl | assumption)) rfl ?_
  refine g_call (Hin := []) (Hr := ?hr1) (R := ?rr1) rfl rfl rfl ?hin1 ?hc1 ?hk1
  case hin1 => repeat' (first | exact Cover.nil | exact Take.here | apply Cover.cons | apply Take.there)
  case hc1 => intro ρ' hρ hR; exact check_ok n hn ca cc F (hF.mono hρ)
  rintro _ _ ⟨rfl, rfl⟩
  refine g_pure (p_assign rfl) rfl ?_
  refine g_nil ?_
  refine g_qt ?_
  refine g_seq ?_
  refine g_region ?_
  refine g_pure (p_move rfl) rfl ?_
  refine g_pure (p_neq rfl rfl) rfl ?_
  refine g_nil ?_
  refine g_qt ?_
  refine g_ifnd rfl (fun c => ?_) (fun c => ?_)
  · refine g_seq ?_
    refine g_region ?_
    refine g_pure (p_move rfl) rfl ?_
    refine g_pure (p_assign rfl) rfl ?_
    refine g_pure (p_assign rfl) rfl ?_
    refine g_pure (p_assign rfl) rfl ?_
    refine g_nil ?_
    refine g_qt ?_
    refine g_ret ?_
    refine g_qt_ret ?_
    refine g_ownnil (e := 3) (size := 1) ?_
    exact g_post (rs := [.tmp 4, .tmp 5, .tmp 6]) rfl (.tmp rfl (.tmp rfl (.tmp rfl .nil))) ⟨[], none, 0, false, check1 n F, .inl ⟨c, rfl, rfl, rfl⟩, rfl, rfl⟩ (by repeat' (first | exact Cover.nil | exact Take.here | apply Cover.cons | apply Take.there))
  · have hO' := hO c
    have hnn := check1_nonneg c
    obtain ⟨m, rfl⟩ : ∃ m : Nat, n = m := ⟨n.toNat, by omega⟩
    rw [Int.toNat_natCast] at hO'
    refine g_skip ?_
    refine g_qt ?_
    refine g_seq ?_
    refine g_seq ?_
    refine g_region ?_
    refine g_pure (p_move rfl) rfl ?_
    refine g_pure (p_len (by rfl) rfl) rfl ?_
    refine g_pure (p_move rfl) rfl ?_
    refine g_nil ?_
    refine g_qt ?_
    refine g_block ?_
    refine g_loop (fun j : Nat => [(1, .slice la ls.length lc), (2, .pointer (some ⟨b2, 0, none⟩)), (18, .slice la ls.length lc), (19, .int .i64 ls.length), (20, .int .i64 j)])
      (fun _ => [Blk b2 (.cells [.int .i64 m, .slice ca F.length cc].toArray 24 (0, 0))]) (fun j => j ≤ ls.length ∧ (ls.take j).all (okB m) = true) (fun j => ls.length - j) 0 ⟨Nat.zero_le _, rfl⟩ (by (repeat (first | exact trivial | refine ⟨by rfl, ?_⟩)); done) (by repeat' (first | exact Cover.nil | exact Take.here | apply Cover.cons | apply Take.there)) ?_
    rintro j ⟨hj, hall⟩
    refine g_seq ?_
    refine g_region ?_
    refine g_pure (p_lss rfl rfl) rfl ?_
    refine g_nil ?_
    refine g_qt ?_
    refine g_seq ?_
    refine g_ifd rfl (fun q => ?_) (fun q => ?_)
    · have hjl : j < ls.length := by omega
      obtain ⟨_, bl, ol, kl, Tl, fl, hl⟩ := hls
      obtain ⟨l1, l2, l3⟩ := hl (by omega)
      have x1 : kl[ol + (j : Int).toNat * 1]? = some (encI ls[j]) := flat2 l3 (i := j) (mapI _ hjl) (by simp)
      have hj64 := hI _ (List.getElem_mem hjl)
      unfold I64 at hj64
      have hfail : okB m ls[j] = false → ls.all (okB m) = false := fun h => by
        rw [← Bool.not_eq_true, List.all_eq_true]
        intro hh
        rw [hh _ (List.getElem_mem hjl)] at h; cases h
      have hgo : okB m ls[j] = true → (ls.take (j + 1)).all (okB m) = true := take_all _ _ _ hjl hall
      have hfin : okB m ls[j] = false → UnS m F ls [] false 14 := fun h => .inr (.inl ⟨c, hfail h, rfl, rfl, rfl⟩)
      generalize hlk : ls[j] = l at *
      refine g_skip ?_
      refine g_qt ?_
      refine g_seq ?_
      refine g_block ?_
      refine g_seq ?_
      refine g_region ?_
      refine g_pure (p_indexAddr rfl rfl (by omega) (fun _ => l1)) rfl ?_
      refine g_pure (p_load (by rfl) rfl (Has.ro l2) x1) rfl ?_
      refine g_pure (p_assign rfl) rfl ?_
      refine g_nil ?_
      refine g_qt ?_
      refine g_seq ?_
      refine g_region ?_
      refine g_pure (p_move rfl) rfl ?_
      refine g_pure (p_eql rfl rfl) rfl ?_
      refine g_pure (p_move rfl) rfl ?_
      refine g_splitd rfl rfl (fun y1 => ?_) (fun y1 => ?_)
      · refine g_no rfl rfl rfl rfl ?_
        refine g_no rfl rfl rfl rfl ?_
        refine g_no rfl rfl rfl rfl ?_
        refine g_no rfl rfl rfl rfl ?_
        first | refine g_pure (p_pickt rfl rfl) rfl ?_ | refine g_pure (p_pickf rfl rfl) rfl ?_
        refine g_pure (p_move rfl) rfl ?_
        refine g_no rfl rfl rfl rfl ?_
        refine g_no rfl rfl rfl rfl ?_
        refine g_no rfl rfl rfl rfl ?_
        refine g_no rfl rfl rfl rfl ?_
        refine g_no rfl rfl rfl rfl ?_
        first | refine g_pure (p_pickt rfl rfl) rfl ?_ | refine g_pure (p_pickf rfl rfl) rfl ?_
        refine g_nil ?_
        refine g_qt ?_
        refine g_ift rfl ?_
        refine g_seq ?_
        refine g_region ?_
        refine g_pure (p_assign rfl) rfl ?_
        refine g_pure (p_assign rfl) rfl ?_
        refine g_pure (p_assign rfl) rfl ?_
        refine g_nil ?_
        refine g_qt ?_
        refine g_ret ?_
        refine g_qb_ret ?_
        refine g_qt_ret ?_
        refine g_qn_ret ?_
        refine g_qb_ret ?_
        refine g_qt_ret ?_
        refine g_ownnil (e := 3) (size := 1) ?_
        exact g_post (rs := [.tmp 4, .tmp 5, .tmp 6]) rfl (.tmp rfl (.tmp rfl (.tmp rfl .nil))) ⟨[], none, 0, false, 14, hfin (by simp [okB, y1]), rfl, rfl⟩ (by repeat' (first | exact Cover.nil | exact Take.here | apply Cover.cons | apply Take.there))
      · refine g_yes rfl rfl ?_
        refine g_pure (p_move rfl) rfl ?_
        refine g_yes rfl rfl ?_
        refine g_pure (p_fieldAddr rfl) rfl ?_
        refine g_yes rfl rfl ?_
        refine g_pure (p_load (by rfl) rfl (by first | (apply Has.own; (repeat' (first | exact Take.here | apply Take.there)); done) | exact Has.ro (by assumption)) (by first | rfl | assumption)) rfl ?_
        refine g_yes rfl rfl ?_
        refine g_pure (p_gtr rfl rfl) rfl ?_
        first | refine g_pure (p_pickt rfl rfl) rfl ?_ | refine g_pure (p_pickf rfl rfl) rfl ?_
        refine g_pure (p_move rfl) rfl ?_
        refine g_splitd rfl rfl (fun y2 => ?_) (fun y2 => ?_)
        · refine g_no rfl rfl rfl rfl ?_
          refine g_no rfl rfl rfl rfl ?_
          refine g_no rfl rfl rfl rfl ?_
          refine g_no rfl rfl rfl rfl ?_
          refine g_no rfl rfl rfl rfl ?_
          first | refine g_pure (p_pickt rfl rfl) rfl ?_ | refine g_pure (p_pickf rfl rfl) rfl ?_
          refine g_nil ?_
          refine g_qt ?_
          refine g_ift rfl ?_
          refine g_seq ?_
          refine g_region ?_
          refine g_pure (p_assign rfl) rfl ?_
          refine g_pure (p_assign rfl) rfl ?_
          refine g_pure (p_assign rfl) rfl ?_
          refine g_nil ?_
          refine g_qt ?_
          refine g_ret ?_
          refine g_qb_ret ?_
          refine g_qt_ret ?_
          refine g_qn_ret ?_
          refine g_qb_ret ?_
          refine g_qt_ret ?_
          refine g_ownnil (e := 3) (size := 1) ?_
          exact g_post (rs := [.tmp 4, .tmp 5, .tmp 6]) rfl (.tmp rfl (.tmp rfl (.tmp rfl .nil))) ⟨[], none, 0, false, 14, hfin (by simp [okB, y2]), rfl, rfl⟩ (by repeat' (first | exact Cover.nil | exact Take.here | apply Cover.cons | apply Take.there))
        · refine g_yes rfl rfl ?_
          refine g_pure (p_move rfl) rfl ?_
          refine g_yes rfl rfl ?_
          refine g_pure (p_fieldAddr rfl) rfl ?_
          refine g_yes rfl rfl ?_
          refine g_pure (p_load (by rfl) rfl (by first | (apply Has.own; (repeat' (first | exact Take.here | apply Take.there)); done) | exact Has.ro (by assumption)) (by first | rfl | assumption)) rfl ?_
          refine g_yes rfl rfl ?_
          first | refine g_pure (p_negi rfl (by omega)) rfl ?_ | refine g_pure (p_neg rfl) rfl ?_
          refine g_yes rfl rfl ?_
          refine g_pure (p_lss rfl rfl) rfl ?_
          first | refine g_pure (p_pickt rfl rfl) rfl ?_ | refine g_pure (p_pickf rfl rfl) rfl ?_
          refine g_nil ?_
          refine g_qt ?_
          refine g_ifd rfl (fun y3 => ?_) (fun y3 => ?_)
          · refine g_seq ?_
            refine g_region ?_
            refine g_pure (p_assign rfl) rfl ?_
            refine g_pure (p_assign rfl) rfl ?_
            refine g_pure (p_assign rfl) rfl ?_
            refine g_nil ?_
            refine g_qt ?_
            refine g_ret ?_
            refine g_qb_ret ?_
            refine g_qt_ret ?_
            refine g_qn_ret ?_
            refine g_qb_ret ?_
            refine g_qt_ret ?_
            refine g_ownnil (e := 3) (size := 1) ?_
            exact g_post (rs := [.tmp 4, .tmp 5, .tmp 6]) rfl (.tmp rfl (.tmp rfl (.tmp rfl .nil))) ⟨[], none, 0, false, 14, hfin (by simp [okB, y3]), rfl, rfl⟩ (by repeat' (first | exact Cover.nil | exact Take.here | apply Cover.cons | apply Take.there))
          · refine g_skip ?_
            refine g_qb ?_
            refine g_qt ?_
            refine g_region ?_
            first | refine g_pure (p_addi rfl rfl (by omega)) rfl ?_ | refine g_pure (p_add rfl rfl) rfl ?_
            refine g_pure (p_move rfl) rfl ?_
            refine g_nil ?_
            refine g_qn ?_
            exact g_next (j + 1) (by (repeat (first | exact trivial | refine ⟨by rfl, ?_⟩)); done) (by repeat' (first | exact Cover.nil | exact Take.here | apply Cover.cons | apply Take.there)) ⟨by omega, hgo (by simp [okB, y1, y2, y3])⟩ (by omega)
    · have hje : j = ls.length := by omega
      rw [hje, List.take_length] at hall
      have hokl : ∀ l ∈ ls, okL m l := fun l hl => okB_okL (List.all_eq_true.1 hall l hl)
      refine g_exit ?_
      refine g_qt_exit ?_
      refine g_qn_exit ?_
      refine g_qb_exit ?_
      refine g_qt ?_
      refine g_seq ?_
      refine g_region ?_
      first | refine g_pure (p_loadO (by rfl) rfl (by first | (apply Has.own; (repeat' (first | exact Take.here | apply Take.there)); done) | exact Has.ro (by assumption)) (by rfl)) rfl ?_ | refine g_pure (p_loadN (by rfl) rfl (by first | (apply Has.own; (repeat' (first | exact Take.here | apply Take.there)); done) | exact Has.ro (by assumption)) (by first | rfl | assumption)) rfl ?_
      refine g_call (Hin := []) (Hr := ?hr2) (R := ?rr2) rfl rfl rfl ?hin2 ?hc2 ?hk2
      case hin2 => repeat' (first | exact Cover.nil | exact Take.here | apply Cover.cons | apply Take.there)
      case hc2 => intro ρ' hρ hR; exact snew_ok hO' ca cc (hF.mono hρ)
      rintro _ _ ⟨s, p, hp1, hp2, hp3, rfl, rfl⟩
      subst hp1
      subst hp3
      have hti := (setF_ti ls _ _ (TI.nil p.n) hokl).inv (F := F)
      have hset : setF (fun _ => none) [] ls = ((setF (fun _ => none) [] ls).1, (setF (fun _ => none) [] ls).2.1, (setF (fun _ => none) [] ls).2.2) := rfl
      obtain ⟨r0, V0, T0, hs0⟩ : ∃ r0 V0 T0, setF (fun _ => none) [] ls = (r0, V0, T0) := ⟨_, _, _, rfl⟩
      rw [hs0] at hti
      dsimp only at hti
      refine g_pure (p_assign rfl) rfl ?_
      refine g_nil ?_
      refine g_qt ?_
      refine g_seq ?_
      refine g_seq ?_
      refine g_join (fun y : Option As × As × List Int × Nat => [(2, .pointer (some ⟨b2, 0, none⟩)), (10, .pointer (some ⟨s, 0, none⟩)), (55, .bool y.1.isNone)])
        (fun y => [Blk b2 (.cells [.int .i64 p.n, .slice p.ca F.length cc].toArray 24 (0, 0)), Sv s p y.2.1 y.2.2.1 (trues F y.2.1) y.2.2.2]) (fun y => UR F ls y.1 ∧ ∀ b, y.1 = some b → y.2.1 = b) ?_ ?_
      · refine g_region ?_
        refine g_pure (p_move rfl) rfl ?_
        refine g_pure (p_move rfl) rfl ?_
        refine g_call (Hin := [Sv s p (fun _ => none) [] (trues F (fun _ => none)) 0]) (Hr := ?hr3) (R := ?rr3) rfl rfl rfl ?hin3 ?hc3 ?hk3
        case hin3 => repeat' (first | exact Cover.nil | exact Take.here | apply Cover.cons | apply Take.there)
        case hc3 => intro ρ' hρ hR; exact set_at hO' hp2 (Own2.ro hR.1) (TI.nil p.n).cnt hs0 (hls.mono hρ) hlen hokl
        rintro _ _ ⟨rfl, rfl⟩
        refine g_pure (p_not rfl) rfl ?_
        refine g_pure (p_move rfl) rfl ?_
        cases r0 with
        | false =>
          refine g_no rfl rfl rfl rfl ?_
          refine g_no rfl rfl rfl rfl ?_
          refine g_no rfl rfl rfl rfl ?_
          first | refine g_pure (p_pickt rfl rfl) rfl ?_ | refine g_pure (p_pickf rfl rfl) rfl ?_
          refine g_pure (p_move rfl) rfl ?_
          refine g_no rfl rfl rfl rfl ?_
          refine g_no rfl rfl rfl rfl ?_
          refine g_no rfl rfl rfl rfl ?_
          first | refine g_pure (p_pickt rfl rfl) rfl ?_ | refine g_pure (p_pickf rfl rfl) rfl ?_
          refine g_nil ?_
          refine g_qn ?_
          exact g_joined (none, V0, T0, 0) (by (repeat (first | exact trivial | refine ⟨by rfl, ?_⟩)); done) (by repeat' (first | exact Cover.nil | exact Take.here | apply Cover.cons | apply Take.there)) ⟨.inl ⟨by rw [hs0], rfl⟩, fun b h => by cases h⟩
        | true =>
          refine g_yes rfl rfl ?_
          refine g_pure (p_move rfl) rfl ?_
          refine g_yes rfl rfl ?_
          refine g_call (Hin := [Sv s p V0 T0 (trues F V0) 0]) (Hr := ?hr4) (R := ?rr4) rfl rfl rfl ?hin4 ?hc4 ?hk4
          case hin4 => repeat' (first | exact Cover.nil | exact Take.here | apply Cover.cons | apply Take.there)
          case hc4 => intro ρ' hρ hR; exact start_at hO' hp2 (Own2.ro hR.1) (hF.mono hρ) hti (Nat.zero_le _)
          rintro _ _ ⟨b3, V1, T1, rfl, rfl, hI1, hp1, hn1, hy1⟩
          refine g_yes rfl rfl ?_
          refine g_pure (p_not rfl) rfl ?_
          first | refine g_pure (p_pickt rfl rfl) rfl ?_ | refine g_pure (p_pickf rfl rfl) rfl ?_
          refine g_pure (p_move rfl) rfl ?_
          cases b3 with
          | false =>
            refine g_no rfl rfl rfl rfl ?_
            refine g_no rfl rfl rfl rfl ?_
            refine g_no rfl rfl rfl rfl ?_
            first | refine g_pure (p_pickt rfl rfl) rfl ?_ | refine g_pure (p_pickf rfl rfl) rfl ?_
            refine g_nil ?_
            refine g_qn ?_
            exact g_joined (none, V1, T1, 0) (by (repeat (first | exact trivial | refine ⟨by rfl, ?_⟩)); done) (by repeat' (first | exact Cover.nil | exact Take.here | apply Cover.cons | apply Take.there)) ⟨.inr ⟨by rw [hs0], by rw [hs0]; exact hn1 rfl⟩, fun b h => by cases h⟩
          | true =>
            refine g_yes rfl rfl ?_
            refine g_pure (p_move rfl) rfl ?_
            refine g_yes rfl rfl ?_
            refine g_call (Hin := [Sv s p V1 T1 (trues F V1) 0]) (Hr := ?hr5) (R := ?rr5) rfl rfl rfl ?hin5 ?hc5 ?hk5
            case hin5 => repeat' (first | exact Cover.nil | exact Take.here | apply Cover.cons | apply Take.there)
            case hc5 => intro ρ' hρ hR; exact prop_at hO' hp2 (Own2.ro hR.1) (hF.mono hρ) hI1 (Nat.zero_le _) (hy1 rfl)
            rintro _ _ ⟨b4, V2, T2, d2, rfl, rfl, hI2, hp3, hn2, hy2⟩
            refine g_yes rfl rfl ?_
            refine g_pure (p_not rfl) rfl ?_
            first | refine g_pure (p_pickt rfl rfl) rfl ?_ | refine g_pure (p_pickf rfl rfl) rfl ?_
            refine g_nil ?_
            refine g_qn ?_
            cases b4 with
            | false => exact g_joined (none, V2, T2, d2) (by (repeat (first | exact trivial | refine ⟨by rfl, ?_⟩)); done) (by repeat' (first | exact Cover.nil | exact Take.here | apply Cover.cons | apply Take.there)) ⟨.inr ⟨by rw [hs0], by rw [hs0]; exact hn2 rfl⟩, fun b h => by cases h⟩
            | true => exact g_joined (some V2, V2, T2, d2) (by (repeat (first | exact trivial | refine ⟨by rfl, ?_⟩)); done) (by repeat' (first | exact Cover.nil | exact Take.here | apply Cover.cons | apply Take.there)) ⟨.inr ⟨by rw [hs0], by rw [hs0]; exact (hy2 rfl).2⟩, fun b h => Option.some.inj h⟩
      rintro ⟨r, V, T, d⟩ ⟨hur, hV⟩
      dsimp only at hur hV ⊢
      refine g_qt ?_
      cases r with
      | none =>
        refine g_ift rfl ?_
        refine g_seq ?_
        refine g_region ?_
        refine g_pure (p_assign rfl) rfl ?_
        refine g_pure (p_assign rfl) rfl ?_
        refine g_pure (p_assign rfl) rfl ?_
        refine g_nil ?_
        refine g_qt ?_
        refine g_ret ?_
        refine g_qt_ret ?_
        refine g_ownnil (e := 3) (size := 1) ?_
        exact g_post (rs := [.tmp 4, .tmp 5, .tmp 6]) rfl (.tmp rfl (.tmp rfl (.tmp rfl .nil))) ⟨[], none, 0, false, 0, .inr (.inr ⟨c, hall, rfl, none, hur, rfl, rfl⟩), rfl, rfl⟩ (by repeat' (first | exact Cover.nil | exact Take.here | apply Cover.cons | apply Take.there))
      | some b =>
        have hVb := hV b rfl
        subst hVb
        refine g_iff rfl ?_
        refine g_skip ?_
        refine g_qt ?_
        refine g_seq ?_
        refine g_region ?_
        refine g_pure (p_assign rfl) rfl ?_
        refine g_nil ?_
        refine g_qt ?_
        refine g_seq ?_
        refine g_seq ?_
        refine g_region ?_
        refine g_pure (p_assign rfl) rfl ?_
        refine g_nil ?_
        refine g_qt ?_
        refine g_block ?_
        refine g_open (.there .here) ?_
        rintro _ ⟨va, vc, ta, tc, xa, xc, rfl⟩
        refine g_own (a1 := va) (k := p.n + 1) (.there .here) (fun _ h _ _ => absurd h (by omega)) ?_
        rintro gv curv rfl v1 v2 v3 v4 v5
        refine g_ownnil (e := 3) (size := 1) ?_
        refine g_loop (fun y : Nat × Option Addr × Nat => [(2, .pointer (some ⟨b2, 0, none⟩)), (10, .pointer (some ⟨s, 0, none⟩)), (11, .slice y.2.1 (ulits y.1 V).length y.2.2), (12, .int .i64 ((y.1 : Int) + 1))])
          (fun y => [OwnSl 3 1 y.2.1 (ulits y.1 V).length y.2.2 ((ulits y.1 V).map encI), Blk gv (.cells curv.toArray 3 (0, 0)), Blk s (.cells [.int .i64 p.n, .slice p.ca p.m p.cc, .slice (some ⟨gv, 0, none⟩) (p.n + 1) vc, .slice ta T.length tc, .slice p.ua (2 * p.n + 2) p.uc, .slice xa p.m xc, .int .i64 ((trues F V).count 0 : Nat), .int .i64 d].toArray 83 (0, 0)),
            Blk b2 (.cells [.int .i64 p.n, .slice p.ca F.length cc].toArray 24 (0, 0))]) (fun y => y.1 ≤ p.n) (fun y => p.n - y.1) (0, none, 0) (Nat.zero_le _) (by (repeat (first | exact trivial | refine ⟨by rfl, ?_⟩)); done) (by repeat' (first | exact Cover.nil | exact Take.here | apply Cover.cons | apply Take.there)) ?_
        rintro ⟨k, oa, oc⟩ hk
        dsimp only at hk ⊢
        have hvars := hO'.vars
        have hul := ulits_len k V
        have hus := ulits_succ k V
        refine g_seq ?_
        refine g_seq ?_
        refine g_region ?_
        refine g_pure (p_move rfl) rfl ?_
        refine g_pure (p_fieldAddr rfl) rfl ?_
        refine g_pure (p_load (by rfl) rfl (by first | (apply Has.own; (repeat' (first | exact Take.here | apply Take.there)); done) | exact Has.ro (by assumption)) (by first | rfl | assumption)) rfl ?_
        refine g_pure (p_leq rfl rfl) rfl ?_
        refine g_nil ?_
        refine g_qt ?_
        refine g_ifd rfl (fun h => ?_) (fun h => ?_)
        · have xu : curv[0 + ((k : Int) + 1).toNat * 1]? = some (.int .i64 (vcode (V (k + 1)))) := own_at (k := k + 1) v4 (by omega) (vcells_at V (by omega))
          refine g_skip ?_
          refine g_qt ?_
          refine g_seq ?_
          refine g_block ?_
          refine g_seq ?_
          refine g_region ?_
          refine g_pure (p_move rfl) rfl ?_
          refine g_pure (p_nilCheck rfl) rfl ?_
          refine g_pure (p_fieldAddr rfl) rfl ?_
          refine g_pure (p_load (by rfl) rfl (by first | (apply Has.own; (repeat' (first | exact Take.here | apply Take.there)); done) | exact Has.ro (by assumption)) (by first | rfl | assumption)) rfl ?_
          refine g_pure (p_move rfl) rfl ?_
          refine g_pure (p_indexAddr rfl rfl (by omega) (fun _ => rfl)) rfl ?_
          refine g_pure (p_load (by rfl) rfl (Has.own (by repeat' (first | exact Take.here | apply Take.there))) xu) rfl ?_
          refine g_nil ?_
          refine g_qt ?_
          refine g_block ?_
          refine g_seq ?_
          refine g_region ?_
          refine g_pure (p_eql rfl rfl) rfl ?_
          refine g_pure (p_assign rfl) rfl ?_
          refine g_nil ?_
          refine g_qt ?_
          unfold ulit at hus
          cases hVk : V (k + 1) with
          | none =>
            rw [hVk, List.append_nil] at hus
            rw [← hus]
            refine g_iff rfl ?_
            refine g_seq ?_
            refine g_region ?_
            refine g_pure (p_eql rfl rfl) rfl ?_
            refine g_pure (p_assign rfl) rfl ?_
            refine g_nil ?_
            refine g_qt ?_
            refine g_iff rfl ?_
            refine g_skip ?_
            refine g_qb ?_
            refine g_qb ?_
            refine g_qt ?_
            refine g_region ?_
            refine g_pure (p_move rfl) rfl ?_
            first | refine g_pure (p_addi rfl rfl (by omega)) rfl ?_ | refine g_pure (p_add rfl rfl) rfl ?_
            refine g_pure (p_assign rfl) rfl ?_
            refine g_nil ?_
            refine g_qn ?_
            exact g_next (k + 1, oa, oc) (by (repeat (first | exact trivial | refine ⟨by rfl, ?_⟩)); done) (by repeat' (first | exact Cover.nil | exact Take.here | apply Cover.cons | apply Take.there)) (by dsimp only; omega) (by dsimp only; omega)
          | some y =>
            rw [hVk] at hus
            cases y with
            | true =>
              refine g_ift rfl ?_
              refine g_region ?_
              refine g_pure (p_move rfl) rfl ?_
              refine g_pure (p_move rfl) rfl ?_
              refine g_eff (e_bs (xs := [.tmp 72]) rfl rfl rfl (by rfl) (by rfl) rfl (by rfl)) rfl (fun _ _ => ?_)
              rintro ⟨b73, rfl, rfl⟩
              refine g_eff (e_appendO (by rfl) (by rfl) rfl rfl (by first | (apply Has.own; (repeat' (first | exact Take.here | apply Take.there)); done) | exact Has.ro (by assumption)) (by rfl) (by rfl) (by repeat' (first | exact Take.here | apply Take.there)) (by omega) (by first | omega | (dsimp only; omega) | (simp <;> omega)) (by omega)) rfl (fun _ _ => ?_)
              rintro ⟨a74, c74, rfl, rfl⟩
              refine g_pure (p_assign rfl) rfl ?_
              refine g_nil ?_
              refine g_qb ?_
              refine g_qb ?_
              refine g_qt ?_
              refine g_region ?_
              refine g_pure (p_move rfl) rfl ?_
              first | refine g_pure (p_addi rfl rfl (by omega)) rfl ?_ | refine g_pure (p_add rfl rfl) rfl ?_
              refine g_pure (p_assign rfl) rfl ?_
              refine g_nil ?_
              refine g_qn ?_
              have e1 : (ulits k V).length + 1 = (ulits (k + 1) V).length := by rw [hus]; simp
              rw [e1]
              refine g_weak (A := OwnSl 3 1 a74 (ulits (k + 1) V).length c74 ((ulits k V).map encI ++ [.int .i64 ((k : Int) + 1)])) (B := OwnSl 3 1 a74 (ulits (k + 1) V).length c74 ((ulits (k + 1) V).map encI)) (by repeat' (first | exact Take.here | apply Take.there)) (fun h hh => by rw [hus, List.map_append, ← hus]; exact hh) ?_
              exact g_next (k + 1, a74, c74) (by (repeat (first | exact trivial | refine ⟨by rfl, ?_⟩)); done) (by repeat' (first | exact Cover.nil | exact Take.here | apply Cover.cons | apply Take.there)) (by dsimp only; omega) (by dsimp only; omega)
            | false =>
              refine g_iff rfl ?_
              refine g_seq ?_
              refine g_region ?_
              refine g_pure (p_eql rfl rfl) rfl ?_
              refine g_pure (p_assign rfl) rfl ?_
              refine g_nil ?_
              refine g_qt ?_
              refine g_ift rfl ?_
              refine g_region ?_
              refine g_pure (p_move rfl) rfl ?_
              refine g_pure (p_move rfl) rfl ?_
              first | refine g_pure (p_negi rfl (by omega)) rfl ?_ | refine g_pure (p_neg rfl) rfl ?_
              refine g_eff (e_bs (xs := [.tmp 79]) rfl rfl rfl (by rfl) (by rfl) rfl (by rfl)) rfl (fun _ _ => ?_)
              rintro ⟨b80, rfl, rfl⟩
              refine g_eff (e_appendO (by rfl) (by rfl) rfl rfl (by first | (apply Has.own; (repeat' (first | exact Take.here | apply Take.there)); done) | exact Has.ro (by assumption)) (by rfl) (by rfl) (by repeat' (first | exact Take.here | apply Take.there)) (by omega) (by first | omega | (dsimp only; omega) | (simp <;> omega)) (by omega)) rfl (fun _ _ => ?_)
              rintro ⟨a81, c81, rfl, rfl⟩
              refine g_pure (p_assign rfl) rfl ?_
              refine g_nil ?_
              refine g_qb ?_
              refine g_qb ?_
              refine g_qt ?_
              refine g_region ?_
              refine g_pure (p_move rfl) rfl ?_
              first | refine g_pure (p_addi rfl rfl (by omega)) rfl ?_ | refine g_pure (p_add rfl rfl) rfl ?_
              refine g_pure (p_assign rfl) rfl ?_
              refine g_nil ?_
              refine g_qn ?_
              have e1 : (ulits k V).length + 1 = (ulits (k + 1) V).length := by rw [hus]; simp
              rw [e1]
              refine g_weak (A := OwnSl 3 1 a81 (ulits (k + 1) V).length c81 ((ulits k V).map encI ++ [.int .i64 (-((k : Int) + 1))])) (B := OwnSl 3 1 a81 (ulits (k + 1) V).length c81 ((ulits (k + 1) V).map encI)) (by repeat' (first | exact Take.here | apply Take.there)) (fun h hh => by rw [hus, List.map_append, ← hus]; exact hh) ?_
              exact g_next (k + 1, a81, c81) (by (repeat (first | exact trivial | refine ⟨by rfl, ?_⟩)); done) (by repeat' (first | exact Cover.nil | exact Take.here | apply Cover.cons | apply Take.there)) (by dsimp only; omega) (by dsimp only; omega)
        · have hke : k = p.n := by omega
          subst hke
          refine g_exit ?_
          refine g_qt_exit ?_
          refine g_qn_exit ?_
          refine g_qb_exit ?_
          refine g_qt ?_
          refine g_seq ?_
          refine g_region ?_
          refine g_pure (p_move rfl) rfl ?_
          refine g_pure (p_assign rfl) rfl ?_
          refine g_pure (p_assign rfl) rfl ?_
          refine g_pure (p_assign rfl) rfl ?_
          refine g_nil ?_
          refine g_qt ?_
          refine g_ret ?_
          exact g_post (rs := [.tmp 4, .tmp 5, .tmp 6]) rfl (.tmp rfl (.tmp rfl (.tmp rfl .nil))) ⟨ulits p.n V, oa, oc, true, 0, .inr (.inr ⟨c, hall, rfl, some V, hur, by rw [Int.toNat_natCast]; rfl, rfl⟩), rfl, rfl⟩ (by repeat' (first | exact Cover.nil | exact Take.here | apply Cover.cons | apply Take.there))
end Go.Proofs.YtopgbgnmjogeeaaDoor
