/- Chapter 37, the document: values, clauses. Conditions: none. -/
import Derived.Test.YtbpgblbhikeglaaT9
namespace Go.Z.Sat
set_option linter.unusedVariables false
set_option linter.unusedSimpArgs false
set_option linter.unusedSectionVars false
open Go Go.Z Go.Proofs.Ytbpgblbhikeglaa
def dcode : Option Bool → Int
  | none => 0
  | some true => 1
  | some false => -1
def dcells (n : Nat) (a : As) : List Value := (List.range (n + 1)).map fun i => .int .i64 (dcode (a i))
theorem dcells_at {n : Nat} (a : As) {i : Nat} (h : i ≤ n) : (dcells n a)[i]? = some (.int .i64 (dcode (a i))) := by
  unfold dcells
  rw [List.getElem?_map, List.getElem?_range (by omega)]; rfl
theorem dcells_len (n : Nat) (a : As) : (dcells n a).length = n + 1 := by simp [dcells]
theorem dcells_put {n : Nat} {a : As} {l : Int} (hl : okL n l) : (dcells n a).set l.natAbs (.int .i64 (if 0 < l then 1 else -1)) = dcells n (put a l) := by
  refine List.ext_getElem? fun i => ?_
  rw [List.getElem?_set]
  by_cases h : l.natAbs = i
  · have hi : i ≤ n := by have := hl.2; omega
    rw [if_pos h, dcells_len, if_pos (by omega), dcells_at _ hi]
    unfold put
    rw [if_pos h.symm]
    by_cases h0 : 0 < l
    · rw [if_pos h0, decide_eq_true h0]; rfl
    · rw [if_neg h0, decide_eq_false h0]; rfl
  · rw [if_neg h]
    by_cases hi : i ≤ n
    · rw [dcells_at _ hi, dcells_at _ hi]
      unfold put
      rw [if_neg (fun e => h e.symm)]
    · rw [List.getElem?_eq_none (by rw [dcells_len]; omega), List.getElem?_eq_none (by rw [dcells_len]; omega)]
theorem dcells_none (n : Nat) : dcells n (fun _ => none) = List.replicate (n + 1) (.int .i64 0) := by
  refine List.ext_getElem (by simp [dcells]) fun k h1 h2 => ?_
  simp [dcells, dcode]
def Lk (A : As) (c : Cl) (done : Bool) (k last : Int) : Prop :=
  (done = true ∧ ∃ l ∈ c, lv A l = some true) ∨ (done = false ∧ (∀ l ∈ c, lv A l ≠ some true) ∧ ((k = 0 ∧ ∀ l ∈ c, lv A l = some false) ∨ (k ≠ 0 ∧ last ∈ c ∧ lv A last = none)))
theorem all_take {α : Type} {p : α → Prop} {l : List α} {k : Nat} (hk : k < l.length) (h : ∀ x ∈ l.take k, p x) (h2 : p l[k]) : ∀ x ∈ l.take (k + 1), p x := by
  rw [List.take_add_one, List.getElem?_eq_getElem hk, Option.toList_some]
  intro x hx
  rcases List.mem_append.1 hx with hx | hx
  · exact h x hx
  · rw [List.mem_singleton.1 hx]; exact h2
end Go.Z.Sat
namespace Go.Proofs.Ytbpgblbhikeglaa
open Go Go.Z Go.Z.Sat

theorem dvalue_ok {ρ : Nat → Obj → Prop} {n : Nat} (hn : n ≤ 262144) {A : As} {aa : Option Addr} {ac : Nat} (l : Int) (hl : okL n l) (hs : RSl ρ 1 aa (n + 1) (dcells n A)) :
    Con Try.prog ρ 31 #[.slice aa (n + 1) ac, .int .i64 l] [] (fun v H => v = .int .i64 (dcode (lv A l)) ∧ H = []) := by
  obtain ⟨_, bv, ov, kv, Tv, fv, hv⟩ := hs
  obtain ⟨v1, v2, v3⟩ := hv (by omega)
  obtain ⟨h0, h1, h2⟩ := hl
  refine con_intro Try.func31 Try.call31 rfl Try.ntmps31 rfl (L := [(0, _), (1, _)]) rfl fun w hh => ?_
  refine g_seq ?_
  refine g_region ?_
  refine g_pure (p_assign rfl) rfl ?_
  refine g_nil ?_
  refine g_qt ?_
  refine g_seq ?_
  refine g_seq ?_
  refine g_region ?_
  refine g_pure (p_move rfl) rfl ?_
  refine g_pure (p_lss rfl rfl) rfl ?_
  refine g_nil ?_
  refine g_qt ?_
  refine g_ifd rfl (fun h => ?_) (fun h => ?_)
  · have x1 : kv[ov + (-l).toNat * 1]? = some (.int .i64 (dcode (A (-l).toNat))) := flat2 v3 (dcells_at A (i := (-l).toNat) (by omega)) rfl
    have e : lv A l = (A (-l).toNat).map (!·) := by unfold lv; rw [if_neg (by omega)]
    have hd : -1 ≤ dcode (A (-l).toNat) ∧ dcode (A (-l).toNat) ≤ 1 := by
      cases A (-l).toNat with
      | none => exact ⟨by decide, by decide⟩
      | some y => cases y <;> exact ⟨by decide, by decide⟩
    have e2 : dcode (lv A l) = -dcode (A (-l).toNat) := by
      rw [e]
      cases A (-l).toNat with
      | none => rfl
      | some y => cases y <;> rfl
    refine g_seq ?_
    refine g_region ?_
    refine g_pure (p_move rfl) rfl ?_
    refine g_pure (p_move rfl) rfl ?_
    first | refine g_pure (p_negi rfl (by omega)) rfl ?_ | refine g_pure (p_neg rfl) rfl ?_
    refine g_pure (p_indexAddr rfl rfl (by omega) (fun _ => v1)) rfl ?_
    refine g_pure (p_load (by rfl) rfl (Has.ro v2) x1) rfl ?_
    first | refine g_pure (p_negi rfl (by omega)) rfl ?_ | refine g_pure (p_neg rfl) rfl ?_
    refine g_pure (p_assign rfl) rfl ?_
    refine g_nil ?_
    refine g_qt ?_
    refine g_ret ?_
    refine g_qt_ret ?_
    exact g_post (rs := [.tmp 4]) rfl (.tmp rfl .nil) ⟨by rw [e2]; rfl, rfl⟩ .nil
  · have x1 : kv[ov + l.toNat * 1]? = some (.int .i64 (dcode (A l.toNat))) := flat2 v3 (dcells_at A (i := l.toNat) (by omega)) rfl
    have e : lv A l = A l.toNat := by unfold lv; rw [if_pos (by omega)]
    refine g_skip ?_
    refine g_qt ?_
    refine g_seq ?_
    refine g_region ?_
    refine g_pure (p_move rfl) rfl ?_
    refine g_pure (p_move rfl) rfl ?_
    refine g_pure (p_indexAddr rfl rfl (by omega) (fun _ => v1)) rfl ?_
    refine g_pure (p_load (by rfl) rfl (Has.ro v2) x1) rfl ?_
    refine g_pure (p_assign rfl) rfl ?_
    refine g_nil ?_
    refine g_qt ?_
    refine g_ret ?_
    exact g_post (rs := [.tmp 4]) rfl (.tmp rfl .nil) ⟨by rw [e]; rfl, rfl⟩ .nil

theorem look_ok {ρ : Nat → Obj → Prop} {n : Nat} (hn : n ≤ 262144) {A : As} {aa : Option Addr} {ac : Nat} (ai : Option Addr) (ci : Nat) (c : Cl) (hc : RSl ρ 1 ai c.length (c.map encI)) (hlen : c.length ≤ 1000000) (hl : ∀ l ∈ c, okL n l) (hs : RSl ρ 1 aa (n + 1) (dcells n A)) :
    Con Try.prog ρ 39 #[.slice aa (n + 1) ac, .slice ai c.length ci] [] (fun v H => ∃ done k last, v = .tuple #[.bool done, .int .i64 k, .int .i64 last] ∧ H = [] ∧ Lk A c done k last) := by
  obtain ⟨_, b, off, cs, T1, fz, hcc⟩ := hc
  refine con_intro Try.func39 Try.call39 rfl Try.ntmps39 rfl (L := [(0, _), (1, _)]) rfl fun w hh => ?_
  refine g_seq ?_
  refine g_region ?_
  refine g_pure (p_assign rfl) rfl ?_
  refine g_pure (p_assign rfl) rfl ?_
  refine g_pure (p_assign rfl) rfl ?_
  refine g_nil ?_
  refine g_qt ?_
  refine g_seq ?_
  refine g_region ?_
  refine g_pure (p_assign rfl) rfl ?_
  refine g_nil ?_
  refine g_qt ?_
  refine g_seq ?_
  refine g_region ?_
  refine g_pure (p_assign rfl) rfl ?_
  refine g_nil ?_
  refine g_qt ?_
  refine g_seq ?_
  refine g_seq ?_
  refine g_region ?_
  refine g_pure (p_assign rfl) rfl ?_
  refine g_nil ?_
  refine g_qt ?_
  refine g_block ?_
  refine g_loop (fun q : Nat × Nat × Int => [(0, .slice aa (n + 1) ac), (1, .slice ai c.length ci), (7, .int .i64 q.2.1), (8, .int .i64 q.2.2), (9, .int .i64 q.1)])
    (fun _ => []) (fun q => q.1 ≤ c.length ∧ q.2.1 ≤ q.1 ∧ (∀ l ∈ c.take q.1, lv A l ≠ some true) ∧ ((q.2.1 = 0 ∧ q.2.2 = 0 ∧ ∀ l ∈ c.take q.1, lv A l = some false) ∨ (q.2.1 ≠ 0 ∧ q.2.2 ∈ c ∧ lv A q.2.2 = none))) (fun q => c.length - q.1) (0, 0, 0) ⟨Nat.zero_le _, Nat.le_refl _, fun l h => by simp at h, .inl ⟨rfl, rfl, fun l h => by simp at h⟩⟩ (by repeat (first | exact trivial | refine ⟨by rfl, ?_⟩)) (by repeat' (first | exact Cover.nil | exact Take.here | apply Cover.cons | apply Take.there)) ?_
  rintro ⟨j, k, last⟩ ⟨hj, hk, hnt, hst⟩
  dsimp only at hj hk hnt hst ⊢
  refine g_seq ?_
  refine g_seq ?_
  refine g_region ?_
  refine g_pure (p_move rfl) rfl ?_
  refine g_pure (p_move rfl) rfl ?_
  refine g_pure (p_len (by rfl) rfl) rfl ?_
  refine g_pure (p_lss rfl rfl) rfl ?_
  refine g_nil ?_
  refine g_qt ?_
  refine g_ifd rfl (fun q => ?_) (fun q => ?_)
  · have hjl : j < c.length := by omega
    obtain ⟨r1, r2, r3⟩ := hcc (by omega)
    have x1 : cs[off + (j : Int).toNat * 1]? = some (encI c[j]) := flat2 r3 (mapI _ hjl) (by simp)
    have hlj := hl _ (List.getElem_mem hjl)
    have hmem := List.getElem_mem hjl
    have hta := fun (p : Int → Prop) h => all_take (p := p) hjl h
    generalize hlk : c[j] = l at *
    refine g_skip ?_
    refine g_qt ?_
    refine g_seq ?_
    refine g_block ?_
    refine g_seq ?_
    refine g_region ?_
    refine g_pure (p_move rfl) rfl ?_
    refine g_pure (p_move rfl) rfl ?_
    refine g_pure (p_move rfl) rfl ?_
    refine g_pure (p_indexAddr rfl rfl (by omega) (fun _ => r1)) rfl ?_
    refine g_pure (p_load (by rfl) rfl (Has.ro r2) x1) rfl ?_
    refine g_call (Hin := []) (Hr := ?hr1) (R := ?rr1) rfl rfl rfl ?hin1 ?hc1 ?hk1
    case hin1 => repeat' (first | exact Cover.nil | exact Take.here | apply Cover.cons | apply Take.there)
    case hc1 => intro ρ' hρ hR; exact dvalue_ok hn l hlj (hs.mono hρ)
    rintro _ _ ⟨rfl, rfl⟩
    refine g_pure (p_assign rfl) rfl ?_
    refine g_nil ?_
    refine g_qt ?_
    refine g_seq ?_
    refine g_seq ?_
    refine g_region ?_
    refine g_pure (p_move rfl) rfl ?_
    refine g_pure (p_gtr rfl rfl) rfl ?_
    refine g_nil ?_
    refine g_qt ?_
    cases hv : lv A l with
    | some y =>
      cases y with
      | true =>
        refine g_ift rfl ?_
        refine g_seq ?_
        refine g_region ?_
        refine g_pure (p_assign rfl) rfl ?_
        refine g_pure (p_assign rfl) rfl ?_
        refine g_pure (p_assign rfl) rfl ?_
        refine g_nil ?_
        refine g_qt ?_
        refine g_ret ?_
        refine g_qt_ret ?_
        refine g_qb_ret ?_
        refine g_qt_ret ?_
        refine g_qn_ret ?_
        refine g_qb_ret ?_
        refine g_qt_ret ?_
        exact g_post (rs := [.tmp 4, .tmp 5, .tmp 6]) rfl (.tmp rfl (.tmp rfl (.tmp rfl .nil))) ⟨true, 0, 0, rfl, rfl, .inl ⟨rfl, l, hmem, hv⟩⟩ .nil
      | false =>
        refine g_iff rfl ?_
        refine g_skip ?_
        refine g_qt ?_
        refine g_seq ?_
        refine g_region ?_
        refine g_pure (p_move rfl) rfl ?_
        refine g_pure (p_eql rfl rfl) rfl ?_
        refine g_pure (p_move rfl) rfl ?_
        refine g_no rfl rfl rfl rfl ?_
        refine g_no rfl rfl rfl rfl ?_
        refine g_no rfl rfl rfl rfl ?_
        refine g_no rfl rfl rfl rfl ?_
        refine g_no rfl rfl rfl rfl ?_
        refine g_no rfl rfl rfl rfl ?_
        first | refine g_pure (p_pickt rfl rfl) rfl ?_ | refine g_pure (p_pickf rfl rfl) rfl ?_
        refine g_nil ?_
        refine g_qt ?_
        refine g_iff rfl ?_
        refine g_skip ?_
        refine g_qb ?_
        refine g_qt ?_
        refine g_region ?_
        refine g_pure (p_move rfl) rfl ?_
        first | refine g_pure (p_addi rfl rfl (by omega)) rfl ?_ | refine g_pure (p_add rfl rfl) rfl ?_
        refine g_pure (p_assign rfl) rfl ?_
        refine g_nil ?_
        refine g_qn ?_
        refine g_next (j + 1, k, last) (by repeat (first | exact trivial | refine ⟨by rfl, ?_⟩)) (by repeat' (first | exact Cover.nil | exact Take.here | apply Cover.cons | apply Take.there)) ⟨by dsimp only; omega, by dsimp only; omega, hta _ hnt (by rw [hv]; simp), ?_⟩ (by dsimp only; omega)
        rcases hst with ⟨h1, h2, h3⟩ | h
        · exact .inl ⟨h1, h2, hta _ h3 hv⟩
        · exact .inr h
    | none =>
      refine g_iff rfl ?_
      refine g_skip ?_
      refine g_qt ?_
      refine g_seq ?_
      refine g_region ?_
      refine g_pure (p_move rfl) rfl ?_
      refine g_pure (p_eql rfl rfl) rfl ?_
      refine g_pure (p_move rfl) rfl ?_
      refine g_yes rfl rfl ?_
      refine g_pure (p_move rfl) rfl ?_
      refine g_yes rfl rfl ?_
      refine g_pure (p_move rfl) rfl ?_
      refine g_yes rfl rfl ?_
      refine g_pure (p_indexAddr rfl rfl (by omega) (fun _ => r1)) rfl ?_
      refine g_yes rfl rfl ?_
      refine g_pure (p_load (by rfl) rfl (Has.ro r2) x1) rfl ?_
      refine g_yes rfl rfl ?_
      refine g_pure (p_move rfl) rfl ?_
      refine g_yes rfl rfl ?_
      refine g_pure (p_neq rfl rfl) rfl ?_
      first | refine g_pure (p_pickt rfl rfl) rfl ?_ | refine g_pure (p_pickf rfl rfl) rfl ?_
      refine g_nil ?_
      refine g_qt ?_
      refine g_ifnd rfl (fun w => ?_) (fun w => ?_)
      · refine g_seq ?_
        refine g_region ?_
        refine g_pure (p_move rfl) rfl ?_
        first | refine g_pure (p_addi rfl rfl (by omega)) rfl ?_ | refine g_pure (p_add rfl rfl) rfl ?_
        refine g_pure (p_assign rfl) rfl ?_
        refine g_nil ?_
        refine g_qt ?_
        refine g_region ?_
        refine g_pure (p_move rfl) rfl ?_
        refine g_pure (p_move rfl) rfl ?_
        refine g_pure (p_indexAddr rfl rfl (by omega) (fun _ => r1)) rfl ?_
        refine g_pure (p_load (by rfl) rfl (Has.ro r2) x1) rfl ?_
        refine g_pure (p_assign rfl) rfl ?_
        refine g_nil ?_
        refine g_qb ?_
        refine g_qt ?_
        refine g_region ?_
        refine g_pure (p_move rfl) rfl ?_
        first | refine g_pure (p_addi rfl rfl (by omega)) rfl ?_ | refine g_pure (p_add rfl rfl) rfl ?_
        refine g_pure (p_assign rfl) rfl ?_
        refine g_nil ?_
        refine g_qn ?_
        exact g_next (j + 1, k + 1, l) (by repeat (first | exact trivial | refine ⟨by rfl, ?_⟩)) (by repeat' (first | exact Cover.nil | exact Take.here | apply Cover.cons | apply Take.there)) ⟨by dsimp only; omega, by dsimp only; omega, hta _ hnt (by rw [hv]; simp), .inr ⟨by dsimp only; omega, hmem, hv⟩⟩ (by dsimp only; omega)
      · refine g_skip ?_
        refine g_qb ?_
        refine g_qt ?_
        refine g_region ?_
        refine g_pure (p_move rfl) rfl ?_
        first | refine g_pure (p_addi rfl rfl (by omega)) rfl ?_ | refine g_pure (p_add rfl rfl) rfl ?_
        refine g_pure (p_assign rfl) rfl ?_
        refine g_nil ?_
        refine g_qn ?_
        refine g_next (j + 1, k, last) (by repeat (first | exact trivial | refine ⟨by rfl, ?_⟩)) (by repeat' (first | exact Cover.nil | exact Take.here | apply Cover.cons | apply Take.there)) ⟨by dsimp only; omega, by dsimp only; omega, hta _ hnt (by rw [hv]; simp), ?_⟩ (by dsimp only; omega)
        rcases hst with ⟨h1, h2, h3⟩ | h
        · exact absurd (w.trans h2) hlj.1
        · exact .inr h
  · have hje : j = c.length := by omega
    rw [hje, List.take_length] at hnt hst
    refine g_exit ?_
    refine g_qt_exit ?_
    refine g_qn_exit ?_
    refine g_qb_exit ?_
    refine g_qt ?_
    refine g_seq ?_
    refine g_region ?_
    refine g_pure (p_move rfl) rfl ?_
    refine g_pure (p_move rfl) rfl ?_
    refine g_pure (p_assign rfl) rfl ?_
    refine g_pure (p_assign rfl) rfl ?_
    refine g_pure (p_assign rfl) rfl ?_
    refine g_nil ?_
    refine g_qt ?_
    refine g_ret ?_
    refine g_post (rs := [.tmp 4, .tmp 5, .tmp 6]) rfl (.tmp rfl (.tmp rfl (.tmp rfl .nil))) ⟨false, k, last, rfl, rfl, .inr ⟨rfl, hnt, ?_⟩⟩ .nil
    rcases hst with ⟨h1, h2, h3⟩ | ⟨h1, h2⟩
    · exact .inl ⟨by omega, h3⟩
    · exact .inr ⟨by omega, h2⟩

theorem only_ok {ρ : Nat → Obj → Prop} {n : Nat} (hn : n ≤ 262144) {A : As} {aa : Option Addr} {ac : Nat} (ai : Option Addr) (ci : Nat) (c : Cl) (hc : RSl ρ 1 ai c.length (c.map encI)) (hlen : c.length ≤ 1000000) (hl : ∀ l ∈ c, okL n l) (hs : RSl ρ 1 aa (n + 1) (dcells n A)) (lit : Int) :
    Con Try.prog ρ 40 #[.slice aa (n + 1) ac, .slice ai c.length ci, .int .i64 lit] [] (fun v H => ∃ b, v = .bool b ∧ H = [] ∧ (b = true → ∀ m ∈ c, lv A m = none → m = lit) ∧ (b = false → ∃ m ∈ c, lv A m = none ∧ m ≠ lit)) := by
  obtain ⟨_, b, off, cs, T1, fz, hcc⟩ := hc
  refine con_intro Try.func40 Try.call40 rfl Try.ntmps40 rfl (L := [(0, _), (1, _), (2, _)]) rfl fun w hh => ?_
  refine g_seq ?_
  refine g_region ?_
  refine g_pure (p_assign rfl) rfl ?_
  refine g_nil ?_
  refine g_qt ?_
  refine g_seq ?_
  refine g_seq ?_
  refine g_region ?_
  refine g_pure (p_assign rfl) rfl ?_
  refine g_nil ?_
  refine g_qt ?_
  refine g_block ?_
  refine g_loop (fun j : Nat => [(0, .slice aa (n + 1) ac), (1, .slice ai c.length ci), (2, .int .i64 lit), (7, .int .i64 j)])
    (fun _ => []) (fun j => j ≤ c.length ∧ ∀ m ∈ c.take j, lv A m = none → m = lit) (fun j => c.length - j) 0 ⟨Nat.zero_le _, fun l h => by simp at h⟩ (by repeat (first | exact trivial | refine ⟨by rfl, ?_⟩)) (by repeat' (first | exact Cover.nil | exact Take.here | apply Cover.cons | apply Take.there)) ?_
  rintro j ⟨hj, hall⟩
  refine g_seq ?_
  refine g_seq ?_
  refine g_region ?_
  refine g_pure (p_move rfl) rfl ?_
  refine g_pure (p_move rfl) rfl ?_
  refine g_pure (p_len (by rfl) rfl) rfl ?_
  refine g_pure (p_lss rfl rfl) rfl ?_
  refine g_nil ?_
  refine g_qt ?_
  refine g_ifd rfl (fun q => ?_) (fun q => ?_)
  · have hjl : j < c.length := by omega
    obtain ⟨r1, r2, r3⟩ := hcc (by omega)
    have x1 : cs[off + (j : Int).toNat * 1]? = some (encI c[j]) := flat2 r3 (mapI _ hjl) (by simp)
    have hlj := hl _ (List.getElem_mem hjl)
    have hmem := List.getElem_mem hjl
    have hta := fun (p : Int → Prop) h => all_take (p := p) hjl h
    generalize hlk : c[j] = l at *
    refine g_skip ?_
    refine g_qt ?_
    refine g_seq ?_
    refine g_block ?_
    refine g_seq ?_
    refine g_region ?_
    refine g_pure (p_move rfl) rfl ?_
    refine g_pure (p_move rfl) rfl ?_
    refine g_pure (p_move rfl) rfl ?_
    refine g_pure (p_indexAddr rfl rfl (by omega) (fun _ => r1)) rfl ?_
    refine g_pure (p_load (by rfl) rfl (Has.ro r2) x1) rfl ?_
    refine g_call (Hin := []) (Hr := ?hr2) (R := ?rr2) rfl rfl rfl ?hin2 ?hc2 ?hk2
    case hin2 => repeat' (first | exact Cover.nil | exact Take.here | apply Cover.cons | apply Take.there)
    case hc2 => intro ρ' hρ hR; exact dvalue_ok hn l hlj (hs.mono hρ)
    rintro _ _ ⟨rfl, rfl⟩
    refine g_pure (p_eql rfl rfl) rfl ?_
    refine g_pure (p_move rfl) rfl ?_
    refine g_splitd rfl rfl (fun y => ?_) (fun y => ?_)
    · have hv : lv A l = none := by
        cases hv : lv A l with
        | none => rfl
        | some z => rw [hv] at y; cases z <;> simp [dcode] at y
      refine g_yes rfl rfl ?_
      refine g_pure (p_move rfl) rfl ?_
      refine g_yes rfl rfl ?_
      refine g_pure (p_move rfl) rfl ?_
      refine g_yes rfl rfl ?_
      refine g_pure (p_indexAddr rfl rfl (by omega) (fun _ => r1)) rfl ?_
      refine g_yes rfl rfl ?_
      refine g_pure (p_load (by rfl) rfl (Has.ro r2) x1) rfl ?_
      refine g_yes rfl rfl ?_
      refine g_pure (p_move rfl) rfl ?_
      refine g_yes rfl rfl ?_
      refine g_pure (p_neq rfl rfl) rfl ?_
      first | refine g_pure (p_pickt rfl rfl) rfl ?_ | refine g_pure (p_pickf rfl rfl) rfl ?_
      refine g_nil ?_
      refine g_qt ?_
      refine g_ifnd rfl (fun w => ?_) (fun w => ?_)
      · refine g_seq ?_
        refine g_region ?_
        refine g_pure (p_assign rfl) rfl ?_
        refine g_nil ?_
        refine g_qt ?_
        refine g_ret ?_
        refine g_qb_ret ?_
        refine g_qt_ret ?_
        refine g_qn_ret ?_
        refine g_qb_ret ?_
        refine g_qt_ret ?_
        exact g_post (rs := [.tmp 6]) rfl (.tmp rfl .nil) ⟨false, rfl, rfl, (fun h => by cases h), fun _ => ⟨l, hmem, hv, w⟩⟩ .nil
      · refine g_skip ?_
        refine g_qb ?_
        refine g_qt ?_
        refine g_region ?_
        refine g_pure (p_move rfl) rfl ?_
        first | refine g_pure (p_addi rfl rfl (by omega)) rfl ?_ | refine g_pure (p_add rfl rfl) rfl ?_
        refine g_pure (p_assign rfl) rfl ?_
        refine g_nil ?_
        refine g_qn ?_
        exact g_next (j + 1) (by repeat (first | exact trivial | refine ⟨by rfl, ?_⟩)) (by repeat' (first | exact Cover.nil | exact Take.here | apply Cover.cons | apply Take.there)) ⟨by omega, hta _ hall fun _ => w⟩ (by omega)
    · refine g_no rfl rfl rfl rfl ?_
      refine g_no rfl rfl rfl rfl ?_
      refine g_no rfl rfl rfl rfl ?_
      refine g_no rfl rfl rfl rfl ?_
      refine g_no rfl rfl rfl rfl ?_
      refine g_no rfl rfl rfl rfl ?_
      first | refine g_pure (p_pickt rfl rfl) rfl ?_ | refine g_pure (p_pickf rfl rfl) rfl ?_
      refine g_nil ?_
      refine g_qt ?_
      refine g_iff rfl ?_
      refine g_skip ?_
      refine g_qb ?_
      refine g_qt ?_
      refine g_region ?_
      refine g_pure (p_move rfl) rfl ?_
      first | refine g_pure (p_addi rfl rfl (by omega)) rfl ?_ | refine g_pure (p_add rfl rfl) rfl ?_
      refine g_pure (p_assign rfl) rfl ?_
      refine g_nil ?_
      refine g_qn ?_
      refine g_next (j + 1) (by repeat (first | exact trivial | refine ⟨by rfl, ?_⟩)) (by repeat' (first | exact Cover.nil | exact Take.here | apply Cover.cons | apply Take.there)) ⟨by omega, hta _ hall fun hv => ?_⟩ (by omega)
      rw [hv] at y; exact absurd rfl y
  · have hje : j = c.length := by omega
    rw [hje, List.take_length] at hall
    refine g_exit ?_
    refine g_qt_exit ?_
    refine g_qn_exit ?_
    refine g_qb_exit ?_
    refine g_qt ?_
    refine g_seq ?_
    refine g_region ?_
    refine g_pure (p_assign rfl) rfl ?_
    refine g_nil ?_
    refine g_qt ?_
    refine g_ret ?_
    exact g_post (rs := [.tmp 6]) rfl (.tmp rfl .nil) ⟨true, rfl, rfl, (fun _ => hall), fun h => by cases h⟩ .nil

theorem sat_ok {ρ : Nat → Obj → Prop} {n : Nat} {F : Fm} (hO : Ok n F) {A : As} {aa : Option Addr} {ac : Nat} (ca : Option Addr) (cc : Nat) (hF : FmR ρ ca F) (hs : RSl ρ 1 aa (n + 1) (dcells n A)) :
    Con Try.prog ρ 25 #[.agg #[.int .i64 n, .slice ca F.length cc], .slice aa (n + 1) ac] [] (fun v H => ∃ b, v = .bool b ∧ H = [] ∧ (b = true → satF F A) ∧ (b = false → ¬ satF F A)) := by
  have hvars := hO.vars
  have hlen := hO.len
  refine con_intro Try.func25 Try.call25 rfl Try.ntmps25 rfl (L := [(0, _), (1, _)]) rfl fun w hh => ?_
  refine g_seq ?_
  refine g_region ?_
  refine g_eff (e_box rfl (by rfl)) rfl (fun _ _ => ?_)
  rintro ⟨b2, rfl, rfl⟩
  refine g_pure (p_assign rfl) rfl ?_
  refine g_nil ?_
  refine g_qt ?_
  refine g_seq ?_
  refine g_seq ?_
  refine g_region ?_
  refine g_pure (p_assign rfl) rfl ?_
  refine g_nil ?_
  refine g_qt ?_
  refine g_block ?_
  refine g_loop (fun i : Nat => [(1, .slice aa (n + 1) ac), (2, .pointer (some ⟨b2, 0, none⟩)), (5, .int .i64 i)])
    (fun _ => [Blk b2 (.cells [.int .i64 n, .slice ca F.length cc].toArray 24 (0, 0))]) (fun i => i ≤ F.length ∧ ∀ c ∈ F.take i, ∃ l ∈ c, lv A l = some true) (fun i => F.length - i) 0 ⟨Nat.zero_le _, fun l h => by simp at h⟩ (by repeat (first | exact trivial | refine ⟨by rfl, ?_⟩)) (by repeat' (first | exact Cover.nil | exact Take.here | apply Cover.cons | apply Take.there)) ?_
  rintro i ⟨hi, hall⟩
  refine g_seq ?_
  refine g_seq ?_
  refine g_region ?_
  refine g_pure (p_move rfl) rfl ?_
  refine g_pure (p_fieldAddr rfl) rfl ?_
  refine g_pure (p_load (by rfl) rfl (by first | (apply Has.own; (repeat' (first | exact Take.here | apply Take.there)); done) | exact Has.ro (by assumption)) (by first | rfl | assumption)) rfl ?_
  refine g_pure (p_len (by rfl) rfl) rfl ?_
  refine g_pure (p_lss rfl rfl) rfl ?_
  refine g_nil ?_
  refine g_qt ?_
  refine g_ifd rfl (fun q => ?_) (fun q => ?_)
  · have hil : i < F.length := by omega
    obtain ⟨b, off, cs, T1, fz, r1, r2, r3⟩ := hF.at (by omega)
    obtain ⟨ai, ci, x1', hrow⟩ := r3 i hil
    have x1 : cs[off + (i : Int).toNat * 1]? = some (.slice ai F[i].length ci) := x1'
    refine g_skip ?_
    refine g_qt ?_
    refine g_seq ?_
    refine g_block ?_
    refine g_seq ?_
    refine g_region ?_
    refine g_pure (p_move rfl) rfl ?_
    refine g_pure (p_fieldAddr rfl) rfl ?_
    refine g_pure (p_load (by rfl) rfl (by first | (apply Has.own; (repeat' (first | exact Take.here | apply Take.there)); done) | exact Has.ro (by assumption)) (by first | rfl | assumption)) rfl ?_
    refine g_pure (p_move rfl) rfl ?_
    refine g_pure (p_indexAddr rfl rfl (by omega) (fun _ => r1)) rfl ?_
    refine g_pure (p_load (by rfl) rfl (Has.ro r2) x1) rfl ?_
    refine g_call (Hin := []) (Hr := ?hr3) (R := ?rr3) rfl rfl rfl ?hin3 ?hc3 ?hk3
    case hin3 => repeat' (first | exact Cover.nil | exact Take.here | apply Cover.cons | apply Take.there)
    case hc3 => intro ρ' hρ hR; exact look_ok hvars ai ci F[i] (hrow.mono hρ) (hO.lens _ (List.getElem_mem hil)) (hO.lits _ (List.getElem_mem hil)) (hs.mono hρ)
    rintro _ _ ⟨done, k, last, rfl, rfl, hlk⟩
    refine g_pure (p_move rfl) rfl ?_
    refine g_pure (p_extract rfl rfl) rfl ?_
    refine g_pure (p_extract rfl rfl) rfl ?_
    refine g_pure (p_extract rfl rfl) rfl ?_
    refine g_pure (p_assign rfl) rfl ?_
    refine g_pure (p_assign rfl) rfl ?_
    refine g_pure (p_assign rfl) rfl ?_
    refine g_nil ?_
    refine g_qt ?_
    refine g_seq ?_
    refine g_region ?_
    refine g_pure (p_move rfl) rfl ?_
    refine g_pure (p_not rfl) rfl ?_
    refine g_nil ?_
    refine g_qt ?_
    rcases hlk with ⟨rfl, h⟩ | ⟨rfl, h, _⟩
    · refine g_iff rfl ?_
      refine g_skip ?_
      refine g_qb ?_
      refine g_qt ?_
      refine g_region ?_
      refine g_pure (p_move rfl) rfl ?_
      first | refine g_pure (p_addi rfl rfl (by omega)) rfl ?_ | refine g_pure (p_add rfl rfl) rfl ?_
      refine g_pure (p_assign rfl) rfl ?_
      refine g_nil ?_
      refine g_qn ?_
      exact g_next (i + 1) (by repeat (first | exact trivial | refine ⟨by rfl, ?_⟩)) (by repeat' (first | exact Cover.nil | exact Take.here | apply Cover.cons | apply Take.there)) ⟨by omega, all_take hil hall h⟩ (by omega)
    · refine g_ift rfl ?_
      refine g_seq ?_
      refine g_region ?_
      refine g_pure (p_assign rfl) rfl ?_
      refine g_nil ?_
      refine g_qt ?_
      refine g_ret ?_
      refine g_qb_ret ?_
      refine g_qt_ret ?_
      refine g_qn_ret ?_
      refine g_qb_ret ?_
      refine g_qt_ret ?_
      exact g_post (rs := [.tmp 4]) rfl (.tmp rfl .nil) ⟨false, rfl, rfl, (fun h => by cases h), fun _ hx => (by obtain ⟨l, h1, h2⟩ := hx F[i] (List.getElem_mem hil); exact h l h1 h2)⟩ .nil
  · have hie : i = F.length := by omega
    rw [hie, List.take_length] at hall
    refine g_exit ?_
    refine g_qt_exit ?_
    refine g_qn_exit ?_
    refine g_qb_exit ?_
    refine g_qt ?_
    refine g_seq ?_
    refine g_region ?_
    refine g_pure (p_assign rfl) rfl ?_
    refine g_nil ?_
    refine g_qt ?_
    refine g_ret ?_
    exact g_post (rs := [.tmp 4]) rfl (.tmp rfl .nil) ⟨true, rfl, rfl, (fun _ => hall), fun h => by cases h⟩ .nil
end Go.Proofs.Ytbpgblbhikeglaa
