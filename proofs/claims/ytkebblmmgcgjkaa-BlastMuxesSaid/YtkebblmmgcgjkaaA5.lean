/- Chapter 35: Eval. Conditions: none. -/
import Derived.Test.YtkebblmmgcgjkaaA3
import Derived.Test.YtkebblmmgcgjkaaA4
namespace Go.Proofs.Ytkebblmmgcgjkaa
set_option maxRecDepth 8000
set_option linter.unusedVariables false
set_option linter.unusedSimpArgs false
set_option linter.unusedSectionVars false
open Go Go.Z Go.Z.Aig


theorem lit_ok {ρ : Nat → Obj → Prop} (b9 g len cap : Nat) (W : List Bool) (a : Int) (ha : 0 ≤ a ∧ a < 2 * W.length) (hW : W.length ≤ 131072) (hlen : len = W.length) (h9 : ρ b9 (.cells [.slice (some ⟨g, 0, none⟩) len cap].toArray 41 (0, 0))) (hg : ρ g (.cells (W.map encB).toArray 4 (0, 0))) :
    Con Try.prog ρ 53 #[.int .i64 a, .pointer (some ⟨b9, 0, none⟩)] [] (fun v H => v = .bool (litv W a) ∧ H = []) := by
  subst hlen
  have hx : (W.map encB)[0 + (a / 2).toNat * 1]? = some (.bool (W.getD (a / 2).toNat false)) := by
    have h1 : (a / 2).toNat < W.length := by omega
    simp [encB, List.getElem?_eq_getElem h1]
  have hand := and1_i64 a (by omega)
  refine con_intro Try.func53 Try.call53 rfl Try.ntmps53 rfl (L := [(0, _), (1, _)]) rfl fun w hh => ?_
  refine g_seq ?_
  refine g_region ?_
  refine g_pure (p_assign rfl) rfl ?_
  refine g_nil ?_
  refine g_qt ?_
  refine g_seq ?_
  refine g_region ?_
  refine g_pure (p_load (by rfl) rfl (by first | (apply Has.own; (repeat' (first | exact Take.here | apply Take.there)); done) | exact Has.ro (by assumption)) (by first | rfl | assumption)) rfl ?_
  refine g_pure (p_move rfl) rfl ?_
  first | refine g_pure (p_quon rfl rfl (by omega) (by omega)) rfl ?_ | refine g_pure (p_quoi rfl rfl (by omega) (by omega)) rfl ?_ | refine g_pure (p_quo rfl rfl (by omega)) rfl ?_
  refine g_pure (p_indexAddr rfl rfl (by omega) (by first | exact fun _ => rfl | assumption)) rfl ?_
  refine g_pure (p_load (by rfl) rfl (Has.ro hg) hx) rfl ?_
  refine g_pure (p_move rfl) rfl ?_
  refine g_pure (p_and rfl rfl) rfl ?_
  refine g_pure (p_eql rfl rfl) rfl ?_
  refine g_pure (p_neqb (by rfl) rfl rfl) rfl ?_
  refine g_pure (p_assign rfl) rfl ?_
  refine g_nil ?_
  refine g_qt ?_
  refine g_ret ?_
  rw [hand]
  refine g_post (rs := [.tmp 3]) rfl (.tmp rfl .nil) ⟨?_, rfl⟩ .nil
  show Value.bool _ = Value.bool _
  congr 1

def inpB (S : St) (j : Nat) : Bool := (S[j]?.map (·.2.2)).getD false
def W1 (S : St) (inp : List Bool) (k : Nat) : List Bool := (List.range S.length).map fun j => if inpB S j && decide (rank S j < k) then (vals S inp).getD j false else false
def W2 (S : St) (inp : List Bool) (k : Nat) : List Bool := (List.range S.length).map fun j => if decide (j < k) || inpB S j then (vals S inp).getD j false else false

theorem W1_zero (S : St) (inp : List Bool) : W1 S inp 0 = List.replicate S.length false := by
  unfold W1
  apply List.ext_getElem
  · simp
  · intro i h1 h2; simp

theorem rank_inj {S : St} {i j : Nat} (hi : inpB S i = true) (hj : inpB S j = true) (h : rank S i = rank S j) : i = j := by
  have key : ∀ i, inpB S i = true → (ins 0 S)[rank S i]? = some (2 * (i : Int)) := fun i hi => by
    unfold inpB at hi
    cases e : S[i]? with
    | none => rw [e] at hi; simp at hi
    | some g =>
      obtain ⟨a, b, z⟩ := g
      rw [e] at hi; simp at hi; subst hi
      have := ins_at S 0 i a b e
      simpa [rank] using this
  have h1 := key i hi
  have h2 := key j hj
  rw [h, h2] at h1
  simp at h1; omega

theorem W1_step {S : St} (hw : WF S) (inp : List Bool) {k : Nat} {x : Int} (hx : (ins 0 S)[k]? = some x) (hk : k < inp.length) :
    ∃ v : Nat, x = 2 * (v : Int) ∧ v < S.length ∧ (W1 S inp k).set v inp[k] = W1 S inp (k + 1) := by
  obtain ⟨v, a, b, h1, h2, h3⟩ := ins_of S 0 k x hx
  have hv := (List.getElem?_eq_some_iff.1 h1).1
  have hv0 : 0 < v := by
    rcases Nat.eq_zero_or_pos v with e | e
    · subst e
      have := hw.hd
      rw [List.head?_eq_getElem?, h1] at this
      simp at this
    · exact e
  have hin : inpB S v = true := by simp [inpB, h1]
  have hval := vals_inp hw hv0 h1 inp
  have hrk : rank S v = k := h3
  refine ⟨v, by simpa using h2, hv, ?_⟩
  apply List.ext_getElem?
  intro j
  rw [List.getElem?_set]
  unfold W1
  by_cases hjv : v = j
  · subst hjv
    simp only [if_true, List.length_map, List.length_range, hv, List.getElem?_map, List.getElem?_range hv, Option.map_some]
    rw [hrk, hin]
    simp [List.getD_eq_getElem?_getD, hval, hrk, List.getElem?_eq_getElem hk]
  · rw [if_neg hjv]
    by_cases hj : j < S.length
    · simp only [List.getElem?_map, List.getElem?_range hj, Option.map_some]
      congr 1
      by_cases hi : inpB S j = true
      · have : rank S j ≠ k := fun e => hjv (rank_inj hin hi (by omega))
        have e1 : decide (rank S j < k + 1) = decide (rank S j < k) := by rw [decide_eq_decide]; omega
        rw [e1]
      · simp [hi]
    · simp [List.getElem?_eq_none, hj]

theorem W1_last {S : St} (inp : List Bool) : W1 S inp (ins 0 S).length = W2 S inp 0 := by
  unfold W1 W2
  apply List.map_congr_left
  intro j _
  by_cases hi : inpB S j = true
  · have : rank S j < (ins 0 S).length := by
      unfold inpB at hi
      cases e : S[j]? with
      | none => rw [e] at hi; simp at hi
      | some g =>
        obtain ⟨a, b, z⟩ := g
        rw [e] at hi; simp at hi; subst hi
        have := ins_at S 0 j a b e
        exact (List.getElem?_eq_some_iff.1 this).1
    simp [hi, this]
  · simp [hi]

theorem W2_len (S : St) (inp : List Bool) (k : Nat) : (W2 S inp k).length = S.length := by simp [W2]
theorem W2_get {S : St} (inp : List Bool) {k j : Nat} (hj : j < S.length) : (W2 S inp k)[j]? = some (if decide (j < k) || inpB S j then (vals S inp).getD j false else false) := by
  simp [W2, List.getElem?_range hj]
theorem W2_lit {S : St} (inp : List Bool) {k : Nat} {a : Int} (ha : 0 ≤ a ∧ a < 2 * k) (hk : k ≤ S.length) : litv (W2 S inp k) a = litv (vals S inp) a := by
  unfold litv
  congr 1
  rw [List.getD_eq_getElem?_getD, W2_get inp (by omega)]
  have : (a / 2).toNat < k := by omega
  simp [this]
theorem W2_skip {S : St} (hw : WF S) (inp : List Bool) {k : Nat} {g : Gt} (hg : S[k]? = some g) (h : g.2.2 = true ∨ k = 0) : W2 S inp k = W2 S inp (k + 1) := by
  unfold W2
  apply List.map_congr_left
  intro j _
  by_cases e : j = k
  · subst e
    rcases h with h | h
    · have : inpB S j = true := by simp [inpB, hg, h]
      simp [this]
    · subst h
      have := vals_zero hw inp
      simp [List.getD_eq_getElem?_getD, this]
  · have : decide (j < k + 1) = decide (j < k) := by rw [decide_eq_decide]; omega
    rw [this]
theorem W2_set {S : St} (hw : WF S) (inp : List Bool) {k : Nat} {a b : Int} (hk : 0 < k) (hg : S[k]? = some (a, b, false)) : (W2 S inp k).set k (litv (W2 S inp k) a && litv (W2 S inp k) b) = W2 S inp (k + 1) := by
  have hkl := (List.getElem?_eq_some_iff.1 hg).1
  obtain ⟨g1, g2, g3⟩ := hw.gate k a b hk hg
  rw [W2_lit inp (by omega) (by omega), W2_lit inp (by omega) (by omega)]
  have hv := vals_gate hw hk hg inp
  apply List.ext_getElem?
  intro j
  rw [List.getElem?_set]
  by_cases hjk : k = j
  · subst hjk
    rw [if_pos rfl, W2_len, if_pos hkl, W2_get inp hkl]
    simp [List.getD_eq_getElem?_getD, hv]
  · rw [if_neg hjk]
    by_cases hj : j < S.length
    · rw [W2_get inp hj, W2_get inp hj]
      have : decide (j < k + 1) = decide (j < k) := by rw [decide_eq_decide]; omega
      rw [this]
    · rw [List.getElem?_eq_none (by rw [W2_len]; omega), List.getElem?_eq_none (by rw [W2_len]; omega)]
theorem W2_last {S : St} (hw : WF S) (inp : List Bool) : W2 S inp S.length = vals S inp := by
  apply List.ext_getElem?
  intro j
  by_cases hj : j < S.length
  · rw [W2_get inp hj]
    have : j < (vals S inp).length := by rw [vals_len hw]; exact hj
    simp [hj, List.getD_eq_getElem?_getD, List.getElem?_eq_getElem this]
  · rw [List.getElem?_eq_none (by rw [W2_len]; omega), List.getElem?_eq_none (by rw [vals_len hw]; omega)]

theorem eval_ok {ρ : Nat → Obj → Prop} (p : Nat) (S : St) (ia : Option Addr) (ic : Nat) (inp : List Bool) (hin : RSl ρ 1 ia inp.length (inp.map encB)) (al : Option Addr) (cl : Nat) (ls : List Int) (hl : RSl ρ 1 al ls.length (ls.map encI)) (hlen : ls.length ≤ 10000000000) (hilen : inp.length ≤ 9223372036854775807)
    (hr : ∀ l ∈ ls, -9223372036854775808 ≤ l ∧ l ≤ 9223372036854775807) (hg : Ro ρ (Gr p S)) :
    Con Try.prog ρ 17 #[.pointer (some ⟨p, 0, none⟩), .slice ia inp.length ic, .slice al ls.length cl] []
      (fun v H => ∃ a c, v = .tuple #[.slice a (eval1 S inp ls).1.length c, .int .i64 (eval1 S inp ls).2] ∧ H = [OwnSl 4 1 a (eval1 S inp ls).1.length c ((eval1 S inp ls).1.map encB)]) := by
  obtain ⟨av, cv, ai, ci, mb, kn, hp, hv, hi, hm, hw, hk⟩ := gr_ro hg
  have hlim := hw.lim
  have hil := ins_le S 0
  refine con_intro Try.func17 Try.call17 rfl Try.ntmps17 rfl (L := [(0, _), (1, _), (2, _)]) rfl fun w hh => ?_
  refine g_seq ?_
  refine g_region ?_
  refine g_pure (p_assign rfl) rfl ?_
  refine g_pure (p_assign rfl) rfl ?_
  refine g_nil ?_
  refine g_qt ?_
  refine g_seq ?_
  refine g_seq ?_
  refine g_region ?_
  refine g_pure (p_move rfl) rfl ?_
  refine g_pure (p_eqnil (by rfl) rfl rfl) rfl ?_
  refine g_nil ?_
  refine g_qt ?_
  refine g_iff rfl ?_
  refine g_skip ?_
  refine g_qt ?_
  refine g_seq ?_
  refine g_seq ?_
  refine g_region ?_
  refine g_pure (p_move rfl) rfl ?_
  refine g_pure (p_len (by rfl) rfl) rfl ?_
  refine g_pure (p_move rfl) rfl ?_
  refine g_pure (p_nilCheck rfl) rfl ?_
  refine g_pure (p_fieldAddr rfl) rfl ?_
  refine g_pure (p_load (by rfl) rfl (by first | (apply Has.own; (repeat' (first | exact Take.here | apply Take.there)); done) | exact Has.ro (by assumption)) (by first | rfl | assumption)) rfl ?_
  refine g_pure (p_len (by rfl) rfl) rfl ?_
  refine g_pure (p_neq rfl rfl) rfl ?_
  refine g_nil ?_
  refine g_qt ?_
  refine g_ifnd rfl (fun h1 => ?_) (fun h1 => ?_)
  · refine g_seq ?_
    refine g_region ?_
    refine g_pure (p_assign rfl) rfl ?_
    refine g_pure (p_assign rfl) rfl ?_
    refine g_nil ?_
    refine g_qt ?_
    refine g_ret ?_
    refine g_qt_ret ?_
    have e : eval1 S inp ls = ([], 9) := by unfold eval1; rw [if_pos (by omega)]
    refine g_ownnil (e := 4) (size := 1) ?_
    exact g_post (rs := [.tmp 6, .tmp 7]) rfl (.tmp rfl (.tmp rfl .nil)) ⟨none, 0, by rw [e]; rfl, by rw [e]⟩ (by repeat' (first | exact Cover.nil | exact Take.here | apply Cover.cons | apply Take.there))
  · refine g_skip ?_
    refine g_qt ?_
    refine g_seq ?_
    refine g_seq ?_
    refine g_region ?_
    refine g_pure (p_move rfl) rfl ?_
    refine g_pure (p_move rfl) rfl ?_
    cases hy : ls.all (hasB S) with
    | false =>
      refine g_call (Hin := []) (Hr := ?hr1) (R := ?rr1) rfl rfl rfl ?hin1 ?hc1 ?hk1
      case hin1 => repeat' (first | exact Cover.nil | exact Take.here | apply Cover.cons | apply Take.there)
      case hc1 => intro ρ' hρ hR; exact ask_no p S al cl ls (hl.mono hρ) (by omega) hr (hg.mono hρ) hy
      rintro _ _ ⟨rfl, rfl⟩
      refine g_pure (p_assign rfl) rfl ?_
      refine g_nil ?_
      refine g_qt ?_
      refine g_seq ?_
      refine g_region ?_
      refine g_pure (p_move rfl) rfl ?_
      refine g_pure (p_neq rfl rfl) rfl ?_
      refine g_nil ?_
      refine g_qt ?_
      refine g_ift rfl ?_
      refine g_seq ?_
      refine g_region ?_
      refine g_pure (p_move rfl) rfl ?_
      refine g_pure (p_assign rfl) rfl ?_
      refine g_pure (p_assign rfl) rfl ?_
      refine g_nil ?_
      refine g_qt ?_
      refine g_ret ?_
      refine g_qt_ret ?_
      have e : eval1 S inp ls = ([], 14) := by unfold eval1; rw [if_neg (by omega), hy]; rfl
      refine g_ownnil (e := 4) (size := 1) ?_
      exact g_post (rs := [.tmp 6, .tmp 7]) rfl (.tmp rfl (.tmp rfl .nil)) ⟨none, 0, by rw [e]; rfl, by rw [e]⟩ (by repeat' (first | exact Cover.nil | exact Take.here | apply Cover.cons | apply Take.there))
    | true =>
      have e : eval1 S inp ls = (ls.map (litv (vals S inp)), 0) := by unfold eval1; rw [if_neg (by omega), hy]; rfl
      refine g_call (Hin := []) (Hr := ?hr2) (R := ?rr2) rfl rfl rfl ?hin2 ?hc2 ?hk2
      case hin2 => repeat' (first | exact Cover.nil | exact Take.here | apply Cover.cons | apply Take.there)
      case hc2 => intro ρ' hρ hR; exact ask_yes p S al cl ls (hl.mono hρ) (by omega) hr (hg.mono hρ) hy
      rintro _ _ ⟨rfl, rfl⟩
      refine g_pure (p_assign rfl) rfl ?_
      refine g_nil ?_
      refine g_qt ?_
      refine g_seq ?_
      refine g_region ?_
      refine g_pure (p_move rfl) rfl ?_
      refine g_pure (p_neq rfl rfl) rfl ?_
      refine g_nil ?_
      refine g_qt ?_
      refine g_iff rfl ?_
      refine g_skip ?_
      refine g_qt ?_
      refine g_seq ?_
      refine g_region ?_
      refine g_pure (p_move rfl) rfl ?_
      refine g_pure (p_nilCheck rfl) rfl ?_
      refine g_pure (p_fieldAddr rfl) rfl ?_
      refine g_pure (p_load (by rfl) rfl (by first | (apply Has.own; (repeat' (first | exact Take.here | apply Take.there)); done) | exact Has.ro (by assumption)) (by first | rfl | assumption)) rfl ?_
      refine g_pure (p_len (by rfl) rfl) rfl ?_
      refine g_eff (e_make (by rfl) (by rfl) rfl rfl (by omega) (by first | omega | (dsimp only; omega)) (by omega)) rfl (fun _ _ => ?_)
      rintro ⟨b39, rfl, rfl⟩
      refine g_eff (e_alloc (by rfl)) rfl (fun _ _ => ?_)
      rintro ⟨b9, rfl, rfl⟩
      first | refine g_eff0 (e_storeO rfl rfl (by rfl) (by rfl) (by rfl) (by repeat' (first | exact Take.here | apply Take.there)) (by rfl)) (fun _ _ => ?_) | refine g_eff0 (e_store1 (by rfl) rfl rfl rfl (by repeat' (first | exact Take.here | apply Take.there)) (by first | decide | (simp <;> omega) | omega)) (fun _ _ => ?_)
      rintro rfl
      refine g_nil ?_
      refine g_qt ?_
      refine g_seq ?_
      refine g_seq ?_
      refine g_region ?_
      refine g_pure (p_move rfl) rfl ?_
      refine g_pure (p_nilCheck rfl) rfl ?_
      refine g_pure (p_fieldAddr rfl) rfl ?_
      refine g_pure (p_load (by rfl) rfl (by first | (apply Has.own; (repeat' (first | exact Take.here | apply Take.there)); done) | exact Has.ro (by assumption)) (by first | rfl | assumption)) rfl ?_
      refine g_pure (p_len (by rfl) rfl) rfl ?_
      refine g_pure (p_move rfl) rfl ?_
      refine g_nil ?_
      refine g_qt ?_
      refine g_block ?_
      obtain ⟨_, b1, o1, cs1, T1, fz1, hi1⟩ := hi
      obtain ⟨_, b2, o2, cs2, T2, fz2, hin2⟩ := hin
      obtain ⟨_, b3, o3, cs3, T3, fz3, hl3⟩ := hl
      obtain ⟨b4, o4, cs4, T4, fz4, hv4⟩ := RSl.row encG_len hv
      have hreps : List.replicate (S.length : Int).toNat (Value.bool false) = (W1 S inp 0).map encB := by rw [W1_zero]; simp [encB]
      have hsl : Value.slice (some ⟨b39, 0, none⟩) (S.length : Int).toNat (S.length : Int).toNat = .slice (some ⟨b39, 0, none⟩) S.length S.length := by simp
      rw [hreps, hsl]
      refine g_loop (fun k : Nat => [(0, .pointer (some ⟨p, 0, none⟩)), (1, .slice ia inp.length ic), (2, .slice al ls.length cl), (9, .pointer (some ⟨b9, 0, none⟩)), (43, .slice ai (ins 0 S).length ci), (44, .int .i64 (ins 0 S).length), (45, .int .i64 k)])
        (fun k => [Blk b9 (.cells [.slice (some ⟨b39, 0, none⟩) S.length S.length].toArray 41 (0, 0)), Blk b39 (.cells ((W1 S inp k).map encB).toArray 4 (0, 0))]) (fun k => k ≤ (ins 0 S).length) (fun k => (ins 0 S).length - k) 0 (Nat.zero_le _) (by (repeat (first | exact trivial | refine ⟨by rfl, ?_⟩)); done) (by repeat' (first | exact Cover.nil | exact Take.here | apply Cover.cons | apply Take.there)) fun k hk' => ?_
      refine g_seq ?_
      refine g_region ?_
      refine g_pure (p_lss rfl rfl) rfl ?_
      refine g_nil ?_
      refine g_qt ?_
      refine g_seq ?_
      refine g_ifd rfl (fun h2 => ?_) (fun h2 => ?_)
      · have hkl : k < (ins 0 S).length := by omega
        have hki : k < inp.length := by omega
        obtain ⟨x, hx⟩ : ∃ x, (ins 0 S)[k]? = some x := ⟨_, List.getElem?_eq_getElem hkl⟩
        obtain ⟨v, hxv, hvl, hset⟩ := W1_step hw inp hx hki
        subst hxv
        have hx1 : cs1[o1 + (k : Int).toNat * 1]? = some (.int .i64 (2 * (v : Int))) := (hi1 (by omega)).2.2 _ _ (by simp [hx, encI])
        have hx2 : cs2[o2 + (k : Int).toNat * 1]? = some (.bool inp[k]) := (hin2 (by omega)).2.2 _ _ (by simp [encB, List.getElem?_eq_getElem hki])
        refine g_skip ?_
        refine g_qt ?_
        refine g_seq ?_
        refine g_block ?_
        refine g_seq ?_
        refine g_region ?_
        refine g_pure (p_move rfl) rfl ?_
        refine g_pure (p_indexAddr rfl rfl (by omega) (fun _ => (hi1 (by omega)).1)) rfl ?_
        refine g_pure (p_load (by rfl) rfl (Has.ro (hi1 (by omega)).2.1) hx1) rfl ?_
        refine g_pure (p_assign rfl) rfl ?_
        refine g_pure (p_assign rfl) rfl ?_
        refine g_nil ?_
        refine g_qt ?_
        refine m_begin0 (.fl 0 1 (.fl 1 0 (.fl 2 0 (.fl 3 0 (.fl 4 0 (.fl 5 0 (.fl 6 1 (.fl 7 0 (.ef 8 .done))))))))) (by kernel_rfl) (by kernel_rfl) ?_
        refine m_float rfl (p_load (by rfl) rfl (by first | (apply Has.own; (repeat' (first | exact Take.here | apply Take.there)); done) | exact Has.ro (by assumption)) (by first | rfl | assumption)) rfl ?_
        refine m_float0 rfl (fun _ _ => p_move rfl) rfl ?_
        first | refine m_float0 rfl (fun _ _ => p_quon rfl rfl (by omega) (by omega)) rfl ?_ | refine m_float0 rfl (fun _ _ => p_quoi rfl rfl (by omega) (by omega)) rfl ?_ | refine m_float0 rfl (fun _ _ => p_quo rfl rfl (by omega)) rfl ?_
        refine m_float0 rfl (fun _ _ => p_move rfl) rfl ?_
        refine m_float0 rfl (fun _ _ => p_move rfl) rfl ?_
        refine m_float0 rfl (fun _ _ => p_indexAddr rfl rfl (by omega) (fun _ => (hin2 (by omega)).1)) rfl ?_
        refine m_float rfl (p_load (by rfl) rfl (Has.ro (hin2 (by omega)).2.1) hx2) rfl ?_
        refine m_float0 rfl (fun _ _ => p_indexAddr rfl rfl (by omega) (fun _ => rfl)) rfl ?_
        refine m_eff0 rfl (e_store1 (by rfl) rfl rfl rfl (by repeat' (first | exact Take.here | apply Take.there)) (by simp [W1]; omega)) (fun _ _ => ?_)
        rintro rfl
        refine ⟨.none (by kernel_rfl), ?_⟩
        refine m_nil ?_
        refine g_qb ?_
        refine g_qt ?_
        refine g_region ?_
        first | refine g_pure (p_addi rfl rfl (by omega)) rfl ?_ | refine g_pure (p_add rfl rfl) rfl ?_
        refine g_pure (p_move rfl) rfl ?_
        refine g_nil ?_
        refine g_qn ?_
        have e5 : ((W1 S inp k).map encB).set (0 + (2 * (v : Int) / 2).toNat * 1) (Value.bool inp[k]) = (W1 S inp (k + 1)).map encB := by
          rw [show 0 + (2 * (v : Int) / 2).toNat * 1 = v from by omega, ← hset, List.map_set]; rfl
        rw [e5]
        exact g_next (k + 1) (by (repeat (first | exact trivial | refine ⟨by rfl, ?_⟩)); done) (by repeat' (first | exact Cover.nil | exact Take.here | apply Cover.cons | apply Take.there)) (by omega) (by omega)
      · have hke : k = (ins 0 S).length := by omega
        subst hke
        rw [W1_last]
        refine g_exit ?_
        refine g_qt_exit ?_
        refine g_qn_exit ?_
        refine g_qb_exit ?_
        refine g_qt ?_
        refine g_seq ?_
        refine g_region ?_
        refine g_pure (p_makeFunc rfl rfl) rfl ?_
        refine g_pure (p_assign rfl) rfl ?_
        refine g_nil ?_
        refine g_qt ?_
        refine g_seq ?_
        refine g_seq ?_
        refine g_region ?_
        refine g_pure (p_move rfl) rfl ?_
        refine g_pure (p_nilCheck rfl) rfl ?_
        refine g_pure (p_fieldAddr rfl) rfl ?_
        refine g_pure (p_load (by rfl) rfl (by first | (apply Has.own; (repeat' (first | exact Take.here | apply Take.there)); done) | exact Has.ro (by assumption)) (by first | rfl | assumption)) rfl ?_
        refine g_pure (p_len (by rfl) rfl) rfl ?_
        refine g_pure (p_move rfl) rfl ?_
        refine g_nil ?_
        refine g_qt ?_
        refine g_block ?_
        refine g_loop (fun k : Nat => [(0, .pointer (some ⟨p, 0, none⟩)), (2, .slice al ls.length cl), (9, .pointer (some ⟨b9, 0, none⟩)), (12, .func (.func 53) #[] #[.pointer (some ⟨b9, 0, none⟩)]), (63, .slice av S.length cv), (64, .int .i64 S.length), (65, .int .i64 k)])
          (fun k => [Blk b9 (.cells [.slice (some ⟨b39, 0, none⟩) S.length S.length].toArray 41 (0, 0)), Blk b39 (.cells ((W2 S inp k).map encB).toArray 4 (0, 0))]) (fun k => k ≤ S.length) (fun k => S.length - k) 0 (Nat.zero_le _) (by (repeat (first | exact trivial | refine ⟨by rfl, ?_⟩)); done) (by repeat' (first | exact Cover.nil | exact Take.here | apply Cover.cons | apply Take.there)) fun k hk2 => ?_
        refine g_seq ?_
        refine g_region ?_
        refine g_pure (p_lss rfl rfl) rfl ?_
        refine g_nil ?_
        refine g_qt ?_
        refine g_seq ?_
        refine g_ifd rfl (fun h3 => ?_) (fun h3 => ?_)
        · have hkl : k < S.length := by omega
          obtain ⟨⟨x, y, z⟩, hq⟩ : ∃ q, S[k] = q := ⟨_, rfl⟩
          have hsk : S[k]? = some (x, y, z) := by rw [List.getElem?_eq_getElem hkl, hq]
          obtain ⟨ra, rb, rc⟩ := hv4 (by omega)
          obtain ⟨rc1, _⟩ := rc k hkl
          rw [hq] at rc1
          refine g_skip ?_
          refine g_qt ?_
          refine g_seq ?_
          refine g_block ?_
          refine g_seq ?_
          refine g_region ?_
          refine g_pure (p_move rfl) rfl ?_
          refine g_pure (p_indexAddr rfl rfl (by omega) (fun _ => ra)) rfl ?_
          refine g_pure (p_loadN (vs := [.int .i64 x, .int .i64 y]) (by rfl) rfl (Has.ro rb) (by rw [Int.toNat_natCast]; exact rc1 (by omega))) rfl ?_
          refine g_eff (e_alloc (by rfl)) rfl (fun _ _ => ?_)
          rintro ⟨b14, rfl, rfl⟩
          refine g_pure (p_assign rfl) rfl ?_
          first | refine g_eff0 (e_storeO rfl rfl (by rfl) (by rfl) (by rfl) (by repeat' (first | exact Take.here | apply Take.there)) (by rfl)) (fun _ _ => ?_) | refine g_eff0 (e_storeN rfl rfl (by rfl) (by rfl) (by rfl) (by repeat' (first | exact Take.here | apply Take.there)) (by simp)) (fun _ _ => ?_)
          rintro rfl
          refine g_nil ?_
          refine g_qt ?_
          refine g_seq ?_
          refine g_region ?_
          first | refine g_pure (p_loadO (by rfl) rfl (by first | (apply Has.own; (repeat' (first | exact Take.here | apply Take.there)); done) | exact Has.ro (by assumption)) (by rfl)) rfl ?_ | refine g_pure (p_loadN (by rfl) rfl (by first | (apply Has.own; (repeat' (first | exact Take.here | apply Take.there)); done) | exact Has.ro (by assumption)) (by first | rfl | assumption)) rfl ?_
          refine g_pure (p_build (by rfl) rfl (by rfl)) rfl ?_
          refine g_pure (p_neagg (eqGate 9998 x y 0 0) (by kernel_rfl) rfl rfl) rfl ?_
          refine g_nil ?_
          refine g_qt ?_
          refine g_if rfl (fun h4 => ?_) (fun h4 => ?_)
          · have hgate : z = false ∧ 0 < k := by
              cases z with
              | true => obtain ⟨rfl, rfl⟩ := hw.inp k x y hsk; simp at h4
              | false =>
                refine ⟨rfl, ?_⟩
                rcases Nat.eq_zero_or_pos k with e0 | e0
                · subst e0
                  have := hw.hd
                  rw [List.head?_eq_getElem?, hsk] at this
                  simp at this
                  obtain ⟨rfl, rfl⟩ := this
                  simp at h4
                · exact e0
            obtain ⟨rfl, hk0⟩ := hgate
            obtain ⟨q1, q2, q3⟩ := hw.gate k x y hk0 hsk
            have hset := W2_set hw inp hk0 hsk
            have hwl := W2_len S inp k
            have hst : ∀ c : Bool, ((W2 S inp k).map encB).set (0 + (k : Int).toNat * 1) (Value.bool c) = ((W2 S inp k).set k c).map encB := fun c => by
              rw [show 0 + (k : Int).toNat * 1 = k from by omega, List.map_set]; rfl
            refine m_begin0 (.fl 0 1 (.fl 1 0 (.fl 2 0 (.fl 3 0 (.fl 4 1 (.ef 5 (.fl 6 0 (.fl 7 0 (.fl 8 0 (.fl 9 1 (.ef 10 (.fl 11 0 (.fl 12 0 (.ef 13 .done)))))))))))))) (by kernel_rfl) (by kernel_rfl) ?_
            refine m_float rfl (p_load (by rfl) rfl (by first | (apply Has.own; (repeat' (first | exact Take.here | apply Take.there)); done) | exact Has.ro (by assumption)) (by first | rfl | assumption)) rfl ?_
            refine m_float0 rfl (fun _ _ => p_move rfl) rfl ?_
            refine m_float0 rfl (fun _ _ => p_move rfl) rfl ?_
            refine m_float0 rfl (fun _ _ => p_fieldAddr rfl) rfl ?_
            refine m_float rfl (p_load (by rfl) rfl (by first | (apply Has.own; (repeat' (first | exact Take.here | apply Take.there)); done) | exact Has.ro (by assumption)) (by first | rfl | assumption)) rfl ?_
            refine m_call (Hin := []) (Hr := ?hr3) (R := ?rr3) rfl wantedN rfl rfl rfl ?hin3 ?hc3 ?hk3
            case hin3 => repeat' (first | exact Cover.nil | exact Take.here | apply Cover.cons | apply Take.there)
            case hc3 => intro ρ' hρ hR; exact lit_ok b9 b39 S.length S.length (W2 S inp k) x (by omega) (by omega) (by omega) hR.2.1.blk hR.2.2.1.blk
            rintro _ _ ⟨rfl, rfl⟩
            refine ⟨.some (by repeat' (first | exact Cover.nil | exact Take.here | apply Cover.cons | apply Take.there)), ?_⟩
            refine m_float0 rfl (fun _ _ => p_move rfl) rfl ?_
            refine m_split 6 rfl rfl (fun h5 => ?_) (fun h5 => ?_)
            · refine m_yes0 rfl rfl rfl (fun _ _ => p_move rfl) rfl ?_
              refine m_yes0 rfl rfl rfl (fun _ _ => p_fieldAddr rfl) rfl ?_
              refine m_yes rfl rfl rfl (p_load (by rfl) rfl (by first | (apply Has.own; (repeat' (first | exact Take.here | apply Take.there)); done) | exact Has.ro (by assumption)) (by first | rfl | assumption)) rfl ?_
              refine m_call (Hin := []) (Hr := ?hr4) (R := ?rr4) rfl (wantedY rfl rfl) rfl rfl rfl ?hin4 ?hc4 ?hk4
              case hin4 => repeat' (first | exact Cover.nil | exact Take.here | apply Cover.cons | apply Take.there)
              case hc4 => intro ρ' hρ hR; exact lit_ok b9 b39 S.length S.length (W2 S inp k) y (by omega) (by omega) (by omega) hR.2.1.blk hR.2.2.1.blk
              rintro _ _ ⟨rfl, rfl⟩
              refine ⟨.some (by repeat' (first | exact Cover.nil | exact Take.here | apply Cover.cons | apply Take.there)), ?_⟩
              first | refine m_float0 rfl (fun _ _ => p_pickt rfl rfl) rfl ?_ | refine m_float0 rfl (fun _ _ => p_pickf rfl rfl) rfl ?_
              refine m_float0 rfl (fun _ _ => p_indexAddr rfl rfl (by omega) (fun _ => rfl)) rfl ?_
              refine m_eff0 rfl (e_store1 (by rfl) rfl rfl rfl (by repeat' (first | exact Take.here | apply Take.there)) (by simp [W2]; omega)) (fun _ _ => ?_)
              rintro rfl
              refine ⟨.none (by kernel_rfl), ?_⟩
              refine m_nil ?_
              refine g_qb ?_
              refine g_qt ?_
              refine g_region ?_
              first | refine g_pure (p_addi rfl rfl (by omega)) rfl ?_ | refine g_pure (p_add rfl rfl) rfl ?_
              refine g_pure (p_move rfl) rfl ?_
              refine g_nil ?_
              refine g_qn ?_
              rw [hst]
              rw [h5, Bool.true_and] at hset
              rw [hset]
              exact g_next (k + 1) (by (repeat (first | exact trivial | refine ⟨by rfl, ?_⟩)); done) (by repeat' (first | exact Cover.nil | exact Take.here | apply Cover.cons | apply Take.there)) (by omega) (by omega)
            · refine m_no0 rfl rfl rfl rfl rfl ?_
              refine m_no0 rfl rfl rfl rfl rfl ?_
              refine m_no rfl rfl rfl rfl rfl ?_
              refine m_noe rfl rfl rfl rfl rfl (.some (by repeat' (first | exact Cover.nil | exact Take.here | apply Cover.cons | apply Take.there))) ?_
              first | refine m_float0 rfl (fun _ _ => p_pickt rfl rfl) rfl ?_ | refine m_float0 rfl (fun _ _ => p_pickf rfl rfl) rfl ?_
              refine m_float0 rfl (fun _ _ => p_indexAddr rfl rfl (by omega) (fun _ => rfl)) rfl ?_
              refine m_eff0 rfl (e_store1 (by rfl) rfl rfl rfl (by repeat' (first | exact Take.here | apply Take.there)) (by simp [W2]; omega)) (fun _ _ => ?_)
              rintro rfl
              refine ⟨.none (by kernel_rfl), ?_⟩
              refine m_nil ?_
              refine g_qb ?_
              refine g_qt ?_
              refine g_region ?_
              first | refine g_pure (p_addi rfl rfl (by omega)) rfl ?_ | refine g_pure (p_add rfl rfl) rfl ?_
              refine g_pure (p_move rfl) rfl ?_
              refine g_nil ?_
              refine g_qn ?_
              rw [hst]
              rw [h5, Bool.false_and] at hset
              rw [hset]
              exact g_next (k + 1) (by (repeat (first | exact trivial | refine ⟨by rfl, ?_⟩)); done) (by repeat' (first | exact Cover.nil | exact Take.here | apply Cover.cons | apply Take.there)) (by omega) (by omega)
          · refine g_skip ?_
            refine g_qb ?_
            refine g_qt ?_
            refine g_region ?_
            first | refine g_pure (p_addi rfl rfl (by omega)) rfl ?_ | refine g_pure (p_add rfl rfl) rfl ?_
            refine g_pure (p_move rfl) rfl ?_
            refine g_nil ?_
            refine g_qn ?_
            have hsk2 : z = true ∨ k = 0 := by
              cases z with
              | true => exact .inl rfl
              | false =>
                right
                rcases Nat.eq_zero_or_pos k with e0 | e0
                · exact e0
                · have := hw.gate k x y e0 hsk
                  simp at h4; omega
            rw [W2_skip hw inp hsk hsk2]
            exact g_next (k + 1) (by (repeat (first | exact trivial | refine ⟨by rfl, ?_⟩)); done) (by repeat' (first | exact Cover.nil | exact Take.here | apply Cover.cons | apply Take.there)) (by omega) (by omega)
        · have hke : k = S.length := by omega
          subst hke
          rw [W2_last hw]
          refine g_exit ?_
          refine g_qt_exit ?_
          refine g_qn_exit ?_
          refine g_qb_exit ?_
          refine g_qt ?_
          refine g_seq ?_
          refine g_region ?_
          refine g_pure (p_assign rfl) rfl ?_
          refine g_nil ?_
          refine g_qt ?_
          refine g_seq ?_
          refine g_seq ?_
          refine g_region ?_
          refine g_pure (p_move rfl) rfl ?_
          refine g_pure (p_len (by rfl) rfl) rfl ?_
          refine g_pure (p_move rfl) rfl ?_
          refine g_nil ?_
          refine g_qt ?_
          refine g_block ?_
          refine g_ownnil (e := 4) (size := 1) ?_
          refine g_loop (fun kk : Nat × Option Addr × Nat => [(2, .slice al ls.length cl), (12, .func (.func 53) #[] #[.pointer (some ⟨b9, 0, none⟩)]), (15, .slice kk.2.1 kk.1 kk.2.2), (87, .slice al ls.length cl), (88, .int .i64 ls.length), (89, .int .i64 kk.1)])
            (fun kk => [OwnSl 4 1 kk.2.1 kk.1 kk.2.2 (((ls.take kk.1).map (litv (vals S inp))).map encB), Blk b9 (.cells [.slice (some ⟨b39, 0, none⟩) S.length S.length].toArray 41 (0, 0)), Blk b39 (.cells ((vals S inp).map encB).toArray 4 (0, 0))]) (fun kk => kk.1 ≤ ls.length) (fun kk => ls.length - kk.1) (0, none, 0) (Nat.zero_le _) (by (repeat (first | exact trivial | refine ⟨by rfl, ?_⟩)); done) (by repeat' (first | exact Cover.nil | exact Take.here | apply Cover.cons | apply Take.there)) ?_
          rintro ⟨k, ao, co⟩ hk3
          refine g_seq ?_
          refine g_region ?_
          refine g_pure (p_lss rfl rfl) rfl ?_
          refine g_nil ?_
          refine g_qt ?_
          refine g_seq ?_
          refine g_ifd rfl (fun h4 => ?_) (fun h4 => ?_)
          · have hkl : k < ls.length := by simp at h4; omega
            have hk3' : k ≤ ls.length := hk3
            have hx1 : cs3[o3 + (k : Int).toNat * 1]? = some (.int .i64 ls[k]) := (hl3 (by omega)).2.2 _ _ (by simp [encI, List.getElem?_eq_getElem hkl])
            refine g_skip ?_
            refine g_qt ?_
            refine g_seq ?_
            refine g_block ?_
            refine g_seq ?_
            refine g_region ?_
            refine g_pure (p_indexAddr rfl rfl (by omega) (fun _ => (hl3 (by omega)).1)) rfl ?_
            refine g_pure (p_load (by rfl) rfl (Has.ro (hl3 (by omega)).2.1) hx1) rfl ?_
            refine g_pure (p_assign rfl) rfl ?_
            refine g_nil ?_
            refine g_qt ?_
            refine g_region ?_
            refine g_pure (p_move rfl) rfl ?_
            refine g_pure (p_move rfl) rfl ?_
            refine g_pure (p_move rfl) rfl ?_
            have hb := hasB_iff.1 (List.all_eq_true.1 hy ls[k] (List.getElem_mem hkl))
            have hb1 := hb.1
            have hb2 := hb.2
            have hvl := vals_len hw inp
            refine g_call (Hin := []) (Hr := ?hr5) (R := ?rr5) rfl rfl rfl ?hin5 ?hc5 ?hk5
            case hin5 => repeat' (first | exact Cover.nil | exact Take.here | apply Cover.cons | apply Take.there)
            case hc5 => intro ρ' hρ hR; exact lit_ok b9 b39 S.length S.length (vals S inp) ls[k] (by omega) (by omega) (by omega) hR.2.1.blk hR.2.2.1.blk
            rintro _ _ ⟨rfl, rfl⟩
            refine g_eff (e_bs (xs := [.tmp 96]) rfl rfl rfl (by rfl) (by rfl) rfl (by rfl)) rfl (fun _ _ => ?_)
            rintro ⟨b97, rfl, rfl⟩
            refine g_eff (e_appendO (by rfl) (by rfl) rfl rfl (by first | (apply Has.own; (repeat' (first | exact Take.here | apply Take.there)); done) | exact Has.ro (by assumption)) (by rfl) (by rfl) (by repeat' (first | exact Take.here | apply Take.there)) (by omega) (by first | omega | (dsimp only; omega) | (simp <;> omega)) (by omega)) rfl (fun _ _ => ?_)
            rintro ⟨a98, c98, rfl, rfl⟩
            refine g_pure (p_assign rfl) rfl ?_
            refine g_nil ?_
            refine g_qb ?_
            refine g_qt ?_
            refine g_region ?_
            first | refine g_pure (p_addi rfl rfl (by omega)) rfl ?_ | refine g_pure (p_add rfl rfl) rfl ?_
            refine g_pure (p_move rfl) rfl ?_
            refine g_nil ?_
            refine g_qn ?_
            have e6 : ((ls.take k).map (litv (vals S inp))).map encB ++ [Value.bool (litv (vals S inp) ls[k])] = ((ls.take (k + 1)).map (litv (vals S inp))).map encB := by
              rw [List.take_add_one, List.getElem?_eq_getElem hkl, Option.toList_some, List.map_append, List.map_append]; rfl
            rw [e6]
            exact g_next (k + 1, a98, c98) (by (repeat (first | exact trivial | refine ⟨by rfl, ?_⟩)); done) (by repeat' (first | exact Cover.nil | exact Take.here | apply Cover.cons | apply Take.there)) (by show k + 1 ≤ ls.length; omega) (by show ls.length - (k + 1) < ls.length - k; omega)
          · have hke : k = ls.length := by have hk3' : k ≤ ls.length := hk3; simp at h4; omega
            subst hke
            refine g_exit ?_
            refine g_qt_exit ?_
            refine g_qn_exit ?_
            refine g_qb_exit ?_
            refine g_qt ?_
            refine g_seq ?_
            refine g_region ?_
            refine g_pure (p_move rfl) rfl ?_
            refine g_pure (p_assign rfl) rfl ?_
            refine g_pure (p_assign rfl) rfl ?_
            refine g_nil ?_
            refine g_qt ?_
            refine g_ret ?_
            rw [List.take_of_length_le (Nat.le_refl _)]
            exact g_post (rs := [.tmp 6, .tmp 7]) (Ho := [OwnSl 4 1 ao ls.length co ((ls.map (litv (vals S inp))).map encB)]) rfl (.tmp rfl (.tmp rfl .nil)) ⟨ao, co, by rw [e, List.length_map]; rfl, by rw [e, List.length_map]⟩ (by repeat' (first | exact Cover.nil | exact Take.here | apply Cover.cons | apply Take.there))
end Go.Proofs.Ytkebblmmgcgjkaa
