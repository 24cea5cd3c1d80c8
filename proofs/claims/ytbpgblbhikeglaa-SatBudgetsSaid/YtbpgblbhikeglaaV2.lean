/- Chapter 37: SatSolves and SatUnits, the walks. Conditions: none. -/
import Derived.Test.YtbpgblbhikeglaaV1
namespace Go.Z.Sat
set_option linter.unusedVariables false
set_option linter.unusedSimpArgs false
set_option linter.unusedSectionVars false
open Go Go.Z Go.Proofs.Ytbpgblbhikeglaa
def mods (n : Nat) (b : As) : List Bool := (List.range n).map fun i => decide (b (i + 1) ≠ some false)
theorem mods_cells (n : Nat) (b : As) : mcells n b = (mods n b).map encB := by unfold mcells mods; rw [List.map_map]; rfl
theorem mods_len (n : Nat) (b : As) : (mods n b).length = n := by simp [mods]
theorem Sol.bools {n : Int} {F : Fm} {bud code e : Int} {cells : List Value} (h : Sol n F bud code cells e) : ∃ xs : List Bool, cells = xs.map encB ∧ xs.length ≤ 262144 := by
  rcases h with ⟨_, _, rfl, _⟩ | ⟨_, _, _, rfl, _⟩ | ⟨_, hc, _, r, _, _, rfl⟩
  · exact ⟨[], rfl, by simp⟩
  · exact ⟨[], rfl, by simp⟩
  · have := check1_nonneg hc
    cases r with
    | unk => exact ⟨[], rfl, by simp⟩
    | uns => exact ⟨[], rfl, by simp⟩
    | sat b => exact ⟨mods n.toNat b, mods_cells _ b, by rw [mods_len]; omega⟩
theorem UnS.len {n : Int} {F : Fm} {ls out : List Int} {ok : Bool} {e : Int} (h : UnS n F ls out ok e) : out.length ≤ 262144 := by
  rcases h with ⟨_, rfl, _⟩ | ⟨_, _, rfl, _⟩ | ⟨hc, _, _, r, _, rfl, _⟩
  · simp
  · simp
  · have := check1_nonneg hc
    cases r with
    | none => simp [uout]
    | some b => have := ulits_len n.toNat b; show (ulits n.toNat b).length ≤ _; omega
def supp (n : Nat) (a : As) : Prop := ∀ v, a v ≠ none → 1 ≤ v ∧ v ≤ n
theorem supp_put {n : Nat} {a : As} (h : supp n a) {l : Int} (hl : okL n l) : supp n (put a l) := fun v hv => by
  unfold put at hv
  by_cases e : v = l.natAbs
  · have := hl.1; have := hl.2; omega
  · rw [if_neg e] at hv; exact h v hv
theorem setF_supp {n : Nat} : ∀ (ls : List Int) (V : As) (T : List Int), supp n V → (∀ l ∈ ls, okL n l) → supp n (setF V T ls).2.1
  | [], V, T, h, _ => h
  | l :: ls, V, T, h, hl => by
    rw [setF_cons]
    cases hv : lv V l with
    | none => exact setF_supp ls _ _ (supp_put h (hl l (by simp))) fun x hx => hl x (by simp [hx])
    | some y => cases y with
      | true => exact setF_supp ls _ _ h fun x hx => hl x (by simp [hx])
      | false => exact h
theorem Der.supp {n : Nat} {F : Fm} (hF : okF n F) {a : As} (ha : supp n a) {l : Int} (h : Der F a l) : 1 ≤ l.natAbs ∧ l.natAbs ≤ n := by
  cases h with
  | base e => exact ha _ fun h => by rw [lv_none.2 h] at e; cases e
  | unit hc hl _ =>
    have h := hF _ hc _ hl
    have h1 := h.1; have h2 := h.2; omega
theorem PR.supp {n : Nat} {F : Fm} (hF : okF n F) {a b : As} (ha : supp n a) (h : PR F a (some b)) : supp n b := fun v hv => by
  by_cases e : a v = none
  · cases hb : b v with
    | none => exact absurd hb hv
    | some x =>
      obtain ⟨h1, h2⟩ := h.2.1 v e x hb
      have := h1.supp hF ha
      cases x <;> simp at this <;> omega
  · exact ha v e
/-- the literals of an assignment make it again -/
theorem put_eq {a b : As} {l : Int} (h : lv b l = some true) : ∀ v, put a l v = if v = l.natAbs then b v else a v := fun v => by
  unfold put
  by_cases e : v = l.natAbs
  · rw [if_pos e, if_pos e, e]
    rw [lv_abs] at h
    split at h
    · rename_i h0; rw [h, decide_eq_true h0]
    · rename_i h0
      cases hv : b l.natAbs with
      | none => rw [hv] at h; cases h
      | some x => rw [hv] at h; cases x <;> simp at h; rw [decide_eq_false h0]
  · rw [if_neg e, if_neg e]
theorem setF_ulits (b : As) : ∀ (k : Nat) (T : List Int) (V : As) (rest : List Int), (∀ v, V v = none) → ∃ T', setF V T (ulits k b ++ rest) = setF (fun v => if 1 ≤ v ∧ v ≤ k then b v else none) T' rest
  | 0, T, V, rest, hV => ⟨T, by
      have : V = fun v => if 1 ≤ v ∧ v ≤ 0 then b v else none := by funext v; rw [hV, if_neg (by omega)]
      rw [← this]; rfl⟩
  | k + 1, T, V, rest, hV => by
    rw [ulits_succ, List.append_assoc]
    obtain ⟨T', h⟩ := setF_ulits b k T V (ulit b k ++ rest) hV
    rw [h]
    have step : ∀ x : Bool, b (k + 1) = some x → ∃ T'', setF (fun v => if 1 ≤ v ∧ v ≤ k then b v else none) T' ((if x then ((k + 1 : Nat) : Int) else -((k + 1 : Nat) : Int)) :: rest) = setF (fun v => if 1 ≤ v ∧ v ≤ k + 1 then b v else none) T'' rest := fun x hx => by
      have hl : lv b (if x then ((k + 1 : Nat) : Int) else -((k + 1 : Nat) : Int)) = some true := (lv_var b (by omega) x).2 hx
      have hab : (if x then ((k + 1 : Nat) : Int) else -((k + 1 : Nat) : Int)).natAbs = k + 1 := by cases x <;> simp <;> omega
      generalize hlk : (if x then ((k + 1 : Nat) : Int) else -((k + 1 : Nat) : Int)) = l at *
      refine ⟨T' ++ [l], ?_⟩
      rw [setF_cons, lv_none.2 (by rw [hab]; exact if_neg (by omega))]
      have : put (fun v => if 1 ≤ v ∧ v ≤ k then b v else none) l = fun v => if 1 ≤ v ∧ v ≤ k + 1 then b v else none := by
        funext v
        rw [put_eq hl, hab]
        by_cases e : v = k + 1
        · rw [if_pos e, if_pos (by omega)]
        · rw [if_neg e]
          by_cases e2 : 1 ≤ v ∧ v ≤ k
          · rw [if_pos e2, if_pos (by omega)]
          · rw [if_neg e2, if_neg (by omega)]
      rw [this]
    unfold ulit
    cases hb : b (k + 1) with
    | none =>
      refine ⟨T', ?_⟩
      have : (fun v => if 1 ≤ v ∧ v ≤ k then b v else none) = fun v => if 1 ≤ v ∧ v ≤ k + 1 then b v else none := by
        funext v
        by_cases e : v = k + 1
        · subst e; rw [if_neg (by omega), if_pos (by omega), hb]
        · by_cases e2 : 1 ≤ v ∧ v ≤ k
          · rw [if_pos e2, if_pos (by omega)]
          · rw [if_neg e2, if_neg (by omega)]
      rw [← this]; rfl
    | some x =>
      have := step x hb
      cases x <;> exact this
theorem ulits_ok {n : Nat} (b : As) : ∀ l ∈ ulits n b, okL n l := fun l hl => by
  obtain ⟨i, hi, h⟩ := List.mem_flatMap.1 hl
  have hi' := List.mem_range.1 hi
  unfold ulit at h
  split at h
  · rw [List.mem_singleton.1 h]; exact ⟨by omega, by omega, by omega⟩
  · rw [List.mem_singleton.1 h]; exact ⟨by omega, by omega, by omega⟩
  · cases h
theorem okL_okB {n : Nat} {l : Int} (h : okL n l) : okB n l = true := by
  unfold okB
  have h1 := h.1; have h2 := h.2
  simp
  exact ⟨h1, by omega, by omega⟩
/-- what follows follows from itself -/
theorem UnS.again {n : Int} {F : Fm} (hF : check1 n F = 0 → okF n.toNat F) {ls out : List Int} {e : Int} (h : UnS n F ls out true e) : UnS n F out out true 0 := by
  rcases h with ⟨_, _, h, _⟩ | ⟨_, _, _, h, _⟩ | ⟨hc, hall, rfl, r, hur, rfl, hok⟩
  · cases h
  · cases h
  · have hF := hF hc
    have hnn := check1_nonneg hc
    cases r with
    | none => cases hok
    | some b =>
      rcases hur with ⟨_, h⟩ | ⟨hs1, hpr⟩
      · cases h
      have hokl : ∀ l ∈ ls, okL n.toNat l := fun l hl => okB_okL (by rw [Int.toNat_of_nonneg hnn.1]; exact List.all_eq_true.1 hall l hl)
      have hsup := PR.supp hF (setF_supp ls (fun _ => none) [] (n := n.toNat) (fun v hv => absurd rfl hv) hokl) hpr
      obtain ⟨T, hT⟩ := setF_ulits b n.toNat [] (fun _ => none) [] (fun _ => rfl)
      have hb : (fun v => if 1 ≤ v ∧ v ≤ n.toNat then b v else none) = b := by
        funext v
        split
        · rfl
        · rename_i h
          cases hv : b v with
          | none => rfl
          | some x => exact absurd (hsup v (by rw [hv]; simp)) h
      rw [List.append_nil, hb] at hT
      refine .inr (.inr ⟨hc, ?_, rfl, some b, .inr ?_, rfl, rfl⟩)
      · rw [List.all_eq_true]
        intro l hl
        have := okL_okB (ulits_ok b l hl)
        rwa [Int.toNat_of_nonneg hnn.1] at this
      · show (setF (fun _ => none) [] (ulits n.toNat b)).1 = true ∧ PR F (setF (fun _ => none) [] (ulits n.toNat b)).2.1 (some b)
        rw [hT]
        exact ⟨rfl, (Snd.refl F b).done hpr.2.2⟩
end Go.Z.Sat
namespace Go.Proofs.Ytbpgblbhikeglaa
open Go Go.Z Go.Z.Sat

theorem solves_ok {ρ : Nat → Obj → Prop} {n : Int} {ca : Option Addr} {cc : Nat} {F : Fm} (hF : FmI ρ n ca F) (bud : Int) (hb : I64 bud) :
    Con Try.prog ρ 3 #[.agg #[.int .i64 n, .slice ca F.length cc], .int .i64 bud] [] (fun v _ => v = .bool true) := by
  refine con_intro Try.func3 Try.call3 rfl Try.ntmps3 rfl (L := [(0, _), (1, _)]) rfl fun w hh => ?_
  refine g_seq ?_
  refine g_region ?_
  refine g_eff (e_box rfl (by rfl)) rfl (fun _ _ => ?_)
  rintro ⟨b2, rfl, rfl⟩
  refine g_pure (p_assign rfl) rfl ?_
  refine g_nil ?_
  refine g_qt ?_
  refine g_seq ?_
  refine g_seq ?_
  refine g_region ?_
  first | refine g_pure (p_loadO (by rfl) rfl (by first | (apply Has.own; (repeat' (first | exact Take.here | apply Take.there)); done) | exact Has.ro (by assumption)) (by rfl)) rfl ?_ | refine g_pure (p_loadN (by rfl) rfl (by first | (apply Has.own; (repeat' (first | exact Take.here | apply Take.there)); done) | exact Has.ro (by assumption)) (by first | rfl | assumption)) rfl ?_
  refine g_pure (p_move rfl) rfl ?_
  refine g_call (Hin := []) (Hr := ?hr1) (R := ?rr1) rfl rfl rfl ?hin1 ?hc1 ?hk1
  case hin1 => repeat' (first | exact Cover.nil | exact Take.here | apply Cover.cons | apply Take.there)
  case hc1 => intro ρ' hρ hR; exact heavy_ok (hF.mono hρ) bud
  rintro _ _ ⟨b, rfl, rfl, hL⟩
  refine g_nil ?_
  refine g_qt ?_
  cases b with
  | true =>
    refine g_ift rfl ?_
    refine g_seq ?_
    refine g_region ?_
    refine g_call (Hin := []) (Hr := ?hr2) (R := ?rr2) rfl rfl rfl ?hin2 ?hc2 ?hk2
    case hin2 => repeat' (first | exact Cover.nil | exact Take.here | apply Cover.cons | apply Take.there)
    case hc2 => intro ρ' hρ hR; exact awake_ok
    rintro _ _ ⟨rfl, rfl⟩
    refine g_pure (p_assign rfl) rfl ?_
    refine g_nil ?_
    refine g_qt ?_
    refine g_ret ?_
    refine g_qt_ret ?_
    exact g_post (Ho := []) (rs := [.tmp 4]) rfl (.tmp rfl .nil) rfl .nil
  | false =>
    have hL := hL rfl
    have hokF : check1 n F = 0 → okF n.toNat F := fun h => (hL.ok h).lits
    refine g_iff rfl ?_
    refine g_skip ?_
    refine g_qt ?_
    refine g_seq ?_
    refine g_region ?_
    first | refine g_pure (p_loadO (by rfl) rfl (by first | (apply Has.own; (repeat' (first | exact Take.here | apply Take.there)); done) | exact Has.ro (by assumption)) (by rfl)) rfl ?_ | refine g_pure (p_loadN (by rfl) rfl (by first | (apply Has.own; (repeat' (first | exact Take.here | apply Take.there)); done) | exact Has.ro (by assumption)) (by first | rfl | assumption)) rfl ?_
    refine g_pure (p_move rfl) rfl ?_
    refine g_call (Hin := []) (Hr := ?hr3) (R := ?rr3) rfl rfl rfl ?hin3 ?hc3 ?hk3
    case hin3 => repeat' (first | exact Cover.nil | exact Take.here | apply Cover.cons | apply Take.there)
    case hc3 => intro ρ' hρ hR; exact solve_ok n hF.vars ca cc F (hF.fm.mono hρ) (fun h => hL.ok h) bud hb
    rintro _ _ ⟨c1, x1, a1, k1, e1, hS1, rfl, rfl⟩
    refine g_pure (p_move rfl) rfl ?_
    refine g_pure (p_extract rfl rfl) rfl ?_
    refine g_pure (p_extract rfl rfl) rfl ?_
    refine g_pure (p_extract rfl rfl) rfl ?_
    refine g_pure (p_assign rfl) rfl ?_
    refine g_pure (p_assign rfl) rfl ?_
    refine g_pure (p_assign rfl) rfl ?_
    refine g_nil ?_
    refine g_qt ?_
    refine g_seq ?_
    refine g_region ?_
    first | refine g_pure (p_loadO (by rfl) rfl (by first | (apply Has.own; (repeat' (first | exact Take.here | apply Take.there)); done) | exact Has.ro (by assumption)) (by rfl)) rfl ?_ | refine g_pure (p_loadN (by rfl) rfl (by first | (apply Has.own; (repeat' (first | exact Take.here | apply Take.there)); done) | exact Has.ro (by assumption)) (by first | rfl | assumption)) rfl ?_
    refine g_pure (p_move rfl) rfl ?_
    refine g_call (Hin := []) (Hr := ?hr4) (R := ?rr4) rfl rfl rfl ?hin4 ?hc4 ?hk4
    case hin4 => repeat' (first | exact Cover.nil | exact Take.here | apply Cover.cons | apply Take.there)
    case hc4 => intro ρ' hρ hR; exact dsolve_ok n hF.vars ca cc F (hF.fm.mono hρ) (fun h => hL.ok h) bud hb
    rintro _ _ ⟨c2, x2, a2, k2, e2, hS2, rfl, rfl⟩
    obtain ⟨rfl, rfl, rfl⟩ := hS1.unique hokF hS2
    obtain ⟨xs, rfl, hxl⟩ := hS1.bools
    refine g_pure (p_move rfl) rfl ?_
    refine g_pure (p_extract rfl rfl) rfl ?_
    refine g_pure (p_extract rfl rfl) rfl ?_
    refine g_pure (p_extract rfl rfl) rfl ?_
    refine g_pure (p_assign rfl) rfl ?_
    refine g_pure (p_assign rfl) rfl ?_
    refine g_pure (p_assign rfl) rfl ?_
    refine g_nil ?_
    refine g_qt ?_
    refine g_seq ?_
    refine g_region ?_
    refine g_pure (p_move rfl) rfl ?_
    refine g_pure (p_move rfl) rfl ?_
    refine g_pure (p_eqlT rfl rfl rfl) rfl ?_
    refine g_pure (p_move rfl) rfl ?_
    refine g_yes rfl rfl ?_
    refine g_pure (p_move rfl) rfl ?_
    refine g_yes rfl rfl ?_
    refine g_pure (p_move rfl) rfl ?_
    refine g_yes rfl rfl ?_
    refine g_pure (p_eqlT rfl rfl rfl) rfl ?_
    first | refine g_pure (p_pickt rfl rfl) rfl ?_ | refine g_pure (p_pickf rfl rfl) rfl ?_
    refine g_pure (p_move rfl) rfl ?_
    refine g_yes rfl rfl ?_
    refine g_pure (p_move rfl) rfl ?_
    refine g_yes rfl rfl ?_
    refine g_pure (p_move rfl) rfl ?_
    refine g_yes rfl rfl ?_
    refine g_call (Hin := []) (Hr := ?hr5) (R := ?rr5) rfl rfl rfl ?hin5 ?hc5 ?hk5
    case hin5 => repeat' (first | exact Cover.nil | exact Take.here | apply Cover.cons | apply Take.there)
    case hc5 => intro ρ' hρ hR; exact bools_ok (xs := xs) (ys := xs) (by simp) (by simp) (RSl.of_own (Take.ro (A := OwnSl 4 1 a1 (xs.map encB).length k1 (xs.map encB)) (by repeat' (first | exact Take.here | apply Take.there)) hR)) (RSl.of_own (Take.ro (A := OwnSl 4 1 a2 (xs.map encB).length k2 (xs.map encB)) (by repeat' (first | exact Take.here | apply Take.there)) hR)) (by omega) (by omega)
    rintro _ _ ⟨rfl, rfl⟩
    rw [decide_eq_true rfl]
    first | refine g_pure (p_pickt rfl rfl) rfl ?_ | refine g_pure (p_pickf rfl rfl) rfl ?_
    refine g_pure (p_move rfl) rfl ?_
    refine g_yes rfl rfl ?_
    refine g_call (Hin := []) (Hr := ?hr6) (R := ?rr6) rfl rfl rfl ?hin6 ?hc6 ?hk6
    case hin6 => repeat' (first | exact Cover.nil | exact Take.here | apply Cover.cons | apply Take.there)
    case hc6 => intro ρ' hρ hR; exact awake_ok
    rintro _ _ ⟨rfl, rfl⟩
    first | refine g_pure (p_pickt rfl rfl) rfl ?_ | refine g_pure (p_pickf rfl rfl) rfl ?_
    refine g_pure (p_assign rfl) rfl ?_
    refine g_nil ?_
    refine g_qt ?_
    refine g_ret ?_
    exact g_post (Ho := []) (rs := [.tmp 4]) rfl (.tmp rfl .nil) rfl .nil

theorem units_ok {ρ : Nat → Obj → Prop} {n : Int} {ca : Option Addr} {cc : Nat} {F : Fm} (hF : FmI ρ n ca F) {la : Option Addr} {lc : Nat} {ls : List Int} (hls : RSl ρ 1 la ls.length (ls.map encI)) (hI : ∀ l ∈ ls, I64 l) :
    Con Try.prog ρ 4 #[.agg #[.int .i64 n, .slice ca F.length cc], .slice la ls.length lc] [] (fun v _ => v = .bool true) := by
  refine con_intro Try.func4 Try.call4 rfl Try.ntmps4 rfl (L := [(0, _), (1, _)]) rfl fun w hh => ?_
  refine g_seq ?_
  refine g_region ?_
  refine g_eff (e_box rfl (by rfl)) rfl (fun _ _ => ?_)
  rintro ⟨b2, rfl, rfl⟩
  refine g_pure (p_assign rfl) rfl ?_
  refine g_nil ?_
  refine g_qt ?_
  refine g_seq ?_
  refine g_seq ?_
  refine g_join (fun y : Bool => [(1, .slice la ls.length lc), (2, .pointer (some ⟨b2, 0, none⟩)), (20, .bool y)]) (fun _ => [Blk b2 (.cells [.int .i64 n, .slice ca F.length cc].toArray 24 (0, 0))]) (fun y => y = false → Light n F 0 ∧ ls.length ≤ 1000) ?_ ?_
  · refine g_region ?_
    first | refine g_pure (p_loadO (by rfl) rfl (by first | (apply Has.own; (repeat' (first | exact Take.here | apply Take.there)); done) | exact Has.ro (by assumption)) (by rfl)) rfl ?_ | refine g_pure (p_loadN (by rfl) rfl (by first | (apply Has.own; (repeat' (first | exact Take.here | apply Take.there)); done) | exact Has.ro (by assumption)) (by first | rfl | assumption)) rfl ?_
    refine g_call (Hin := []) (Hr := ?hr7) (R := ?rr7) rfl rfl rfl ?hin7 ?hc7 ?hk7
    case hin7 => repeat' (first | exact Cover.nil | exact Take.here | apply Cover.cons | apply Take.there)
    case hc7 => intro ρ' hρ hR; exact heavy_ok (hF.mono hρ) 0
    rintro _ _ ⟨b, rfl, rfl, hL⟩
    refine g_pure (p_move rfl) rfl ?_
    cases b with
    | true =>
      refine g_no rfl rfl rfl rfl ?_
      refine g_no rfl rfl rfl rfl ?_
      refine g_no rfl rfl rfl rfl ?_
      first | refine g_pure (p_pickt rfl rfl) rfl ?_ | refine g_pure (p_pickf rfl rfl) rfl ?_
      refine g_nil ?_
      refine g_qn ?_
      exact g_joined true (by repeat (first | exact trivial | refine ⟨by rfl, ?_⟩)) (by repeat' (first | exact Cover.nil | exact Take.here | apply Cover.cons | apply Take.there)) fun h => by cases h
    | false =>
      refine g_yes rfl rfl ?_
      refine g_pure (p_move rfl) rfl ?_
      refine g_yes rfl rfl ?_
      refine g_pure (p_len (by rfl) rfl) rfl ?_
      refine g_yes rfl rfl ?_
      refine g_pure (p_gtr rfl rfl) rfl ?_
      first | refine g_pure (p_pickt rfl rfl) rfl ?_ | refine g_pure (p_pickf rfl rfl) rfl ?_
      refine g_nil ?_
      refine g_qn ?_
      exact g_joined (decide (1000 < (ls.length : Int))) (by repeat (first | exact trivial | refine ⟨by rfl, ?_⟩)) (by repeat' (first | exact Cover.nil | exact Take.here | apply Cover.cons | apply Take.there)) fun h => ⟨hL rfl, by have := of_decide_eq_false h; omega⟩
  intro y hL
  refine g_qt ?_
  cases y with
  | true =>
    refine g_ift rfl ?_
    refine g_seq ?_
    refine g_region ?_
    refine g_call (Hin := []) (Hr := ?hr8) (R := ?rr8) rfl rfl rfl ?hin8 ?hc8 ?hk8
    case hin8 => repeat' (first | exact Cover.nil | exact Take.here | apply Cover.cons | apply Take.there)
    case hc8 => intro ρ' hρ hR; exact awake_ok
    rintro _ _ ⟨rfl, rfl⟩
    refine g_pure (p_assign rfl) rfl ?_
    refine g_nil ?_
    refine g_qt ?_
    refine g_ret ?_
    refine g_qt_ret ?_
    exact g_post (Ho := []) (rs := [.tmp 4]) rfl (.tmp rfl .nil) rfl .nil
  | false =>
    obtain ⟨hL, hl1000⟩ := hL rfl
    have hlen : ls.length ≤ 9223372036854775806 := by omega
    have hokF : check1 n F = 0 → okF n.toNat F := fun h => (hL.ok h).lits
    refine g_iff rfl ?_
    refine g_skip ?_
    refine g_qt ?_
    refine g_seq ?_
    refine g_region ?_
    first | refine g_pure (p_loadO (by rfl) rfl (by first | (apply Has.own; (repeat' (first | exact Take.here | apply Take.there)); done) | exact Has.ro (by assumption)) (by rfl)) rfl ?_ | refine g_pure (p_loadN (by rfl) rfl (by first | (apply Has.own; (repeat' (first | exact Take.here | apply Take.there)); done) | exact Has.ro (by assumption)) (by first | rfl | assumption)) rfl ?_
    refine g_pure (p_move rfl) rfl ?_
    refine g_call (Hin := []) (Hr := ?hr9) (R := ?rr9) rfl rfl rfl ?hin9 ?hc9 ?hk9
    case hin9 => repeat' (first | exact Cover.nil | exact Take.here | apply Cover.cons | apply Take.there)
    case hc9 => intro ρ' hρ hR; exact unit_ok n hF.vars ca cc F (hF.fm.mono hρ) (fun h => hL.ok h) la lc ls (hls.mono hρ) hlen hI
    rintro _ _ ⟨o1, a1, k1, ok1, e1, hS1, rfl, rfl⟩
    refine g_pure (p_move rfl) rfl ?_
    refine g_pure (p_extract rfl rfl) rfl ?_
    refine g_pure (p_extract rfl rfl) rfl ?_
    refine g_pure (p_extract rfl rfl) rfl ?_
    refine g_pure (p_assign rfl) rfl ?_
    refine g_pure (p_assign rfl) rfl ?_
    refine g_pure (p_assign rfl) rfl ?_
    refine g_nil ?_
    refine g_qt ?_
    refine g_seq ?_
    refine g_region ?_
    first | refine g_pure (p_loadO (by rfl) rfl (by first | (apply Has.own; (repeat' (first | exact Take.here | apply Take.there)); done) | exact Has.ro (by assumption)) (by rfl)) rfl ?_ | refine g_pure (p_loadN (by rfl) rfl (by first | (apply Has.own; (repeat' (first | exact Take.here | apply Take.there)); done) | exact Has.ro (by assumption)) (by first | rfl | assumption)) rfl ?_
    refine g_pure (p_move rfl) rfl ?_
    refine g_call (Hin := []) (Hr := ?hr10) (R := ?rr10) rfl rfl rfl ?hin10 ?hc10 ?hk10
    case hin10 => repeat' (first | exact Cover.nil | exact Take.here | apply Cover.cons | apply Take.there)
    case hc10 => intro ρ' hρ hR; exact dunit_ok n hF.vars ca cc F (hF.fm.mono hρ) (fun h => hL.ok h) la lc ls (hls.mono hρ) hlen hI
    rintro _ _ ⟨o2, a2, k2, ok2, e2, hS2, rfl, rfl⟩
    obtain ⟨rfl, rfl, rfl⟩ := hS1.unique hokF hS2
    have hol := hS1.len
    have hoI : ∀ l ∈ o1, I64 l := fun l hl => by
      rcases hS1 with ⟨_, h, _⟩ | ⟨_, _, h, _⟩ | ⟨hc, _, _, r, _, h, _⟩
      · rw [h] at hl; cases hl
      · rw [h] at hl; cases hl
      · cases r with
        | none => rw [h] at hl; cases hl
        | some b =>
          rw [h] at hl
          have h1 := ulits_ok b l hl
          have h2 := check1_nonneg hc
          exact ⟨by have := h1.2; omega, by have := h1.2; omega⟩
    refine g_pure (p_move rfl) rfl ?_
    refine g_pure (p_extract rfl rfl) rfl ?_
    refine g_pure (p_extract rfl rfl) rfl ?_
    refine g_pure (p_extract rfl rfl) rfl ?_
    refine g_pure (p_assign rfl) rfl ?_
    refine g_pure (p_assign rfl) rfl ?_
    refine g_pure (p_assign rfl) rfl ?_
    refine g_nil ?_
    refine g_qt ?_
    refine g_seq ?_
    refine g_seq ?_
    refine g_region ?_
    refine g_pure (p_move rfl) rfl ?_
    refine g_pure (p_move rfl) rfl ?_
    refine g_call (Hin := []) (Hr := ?hr11) (R := ?rr11) rfl rfl rfl ?hin11 ?hc11 ?hk11
    case hin11 => repeat' (first | exact Cover.nil | exact Take.here | apply Cover.cons | apply Take.there)
    case hc11 => intro ρ' hρ hR; exact ints_ok (xs := o1) (ys := o1) (RSl.of_own (Take.ro (A := OwnSl 3 1 a1 o1.length k1 (o1.map encI)) (by repeat' (first | exact Take.here | apply Take.there)) hR)) (RSl.of_own (Take.ro (A := OwnSl 3 1 a2 o1.length k2 (o1.map encI)) (by repeat' (first | exact Take.here | apply Take.there)) hR)) (by omega) (by omega)
    rintro _ _ ⟨rfl, rfl⟩
    rw [decide_eq_true rfl]
    cases ok1 with
    | false =>
      refine g_pure (p_not rfl) rfl ?_
      refine g_pure (p_move rfl) rfl ?_
      refine g_yes rfl rfl ?_
      refine g_pure (p_move rfl) rfl ?_
      refine g_yes rfl rfl ?_
      refine g_pure (p_move rfl) rfl ?_
      refine g_yes rfl rfl ?_
      refine g_pure (p_neqb (by rfl) rfl rfl) rfl ?_
      first | refine g_pure (p_pickt rfl rfl) rfl ?_ | refine g_pure (p_pickf rfl rfl) rfl ?_
      refine g_pure (p_move rfl) rfl ?_
      refine g_yes rfl rfl ?_
      refine g_pure (p_move rfl) rfl ?_
      refine g_yes rfl rfl ?_
      refine g_pure (p_move rfl) rfl ?_
      refine g_yes rfl rfl ?_
      refine g_pure (p_neqF rfl rfl rfl) rfl ?_
      first | refine g_pure (p_pickt rfl rfl) rfl ?_ | refine g_pure (p_pickf rfl rfl) rfl ?_
      refine g_nil ?_
      refine g_qt ?_
      refine g_iff rfl ?_
      refine g_skip ?_
      refine g_qt ?_
      refine g_seq ?_
      refine g_seq ?_
      refine g_region ?_
      refine g_pure (p_move rfl) rfl ?_
      refine g_pure (p_not rfl) rfl ?_
      refine g_nil ?_
      refine g_qt ?_
      refine g_ift rfl ?_
      refine g_seq ?_
      refine g_region ?_
      refine g_call (Hin := []) (Hr := ?hr12) (R := ?rr12) rfl rfl rfl ?hin12 ?hc12 ?hk12
      case hin12 => repeat' (first | exact Cover.nil | exact Take.here | apply Cover.cons | apply Take.there)
      case hc12 => intro ρ' hρ hR; exact awake_ok
      rintro _ _ ⟨rfl, rfl⟩
      refine g_pure (p_assign rfl) rfl ?_
      refine g_nil ?_
      refine g_qt ?_
      refine g_ret ?_
      refine g_qt_ret ?_
      exact g_post (Ho := []) (rs := [.tmp 4]) rfl (.tmp rfl .nil) rfl .nil
    | true =>
      refine g_pure (p_not rfl) rfl ?_
      refine g_pure (p_move rfl) rfl ?_
      refine g_yes rfl rfl ?_
      refine g_pure (p_move rfl) rfl ?_
      refine g_yes rfl rfl ?_
      refine g_pure (p_move rfl) rfl ?_
      refine g_yes rfl rfl ?_
      refine g_pure (p_neqb (by rfl) rfl rfl) rfl ?_
      first | refine g_pure (p_pickt rfl rfl) rfl ?_ | refine g_pure (p_pickf rfl rfl) rfl ?_
      refine g_pure (p_move rfl) rfl ?_
      refine g_yes rfl rfl ?_
      refine g_pure (p_move rfl) rfl ?_
      refine g_yes rfl rfl ?_
      refine g_pure (p_move rfl) rfl ?_
      refine g_yes rfl rfl ?_
      refine g_pure (p_neqF rfl rfl rfl) rfl ?_
      first | refine g_pure (p_pickt rfl rfl) rfl ?_ | refine g_pure (p_pickf rfl rfl) rfl ?_
      refine g_nil ?_
      refine g_qt ?_
      refine g_iff rfl ?_
      refine g_skip ?_
      refine g_qt ?_
      refine g_seq ?_
      refine g_seq ?_
      refine g_region ?_
      refine g_pure (p_move rfl) rfl ?_
      refine g_pure (p_not rfl) rfl ?_
      refine g_nil ?_
      refine g_qt ?_
      refine g_iff rfl ?_
      refine g_skip ?_
      refine g_qt ?_
      refine g_seq ?_
      refine g_region ?_
      first | refine g_pure (p_loadO (by rfl) rfl (by first | (apply Has.own; (repeat' (first | exact Take.here | apply Take.there)); done) | exact Has.ro (by assumption)) (by rfl)) rfl ?_ | refine g_pure (p_loadN (by rfl) rfl (by first | (apply Has.own; (repeat' (first | exact Take.here | apply Take.there)); done) | exact Has.ro (by assumption)) (by first | rfl | assumption)) rfl ?_
      refine g_pure (p_move rfl) rfl ?_
      refine g_call (Hin := []) (Hr := ?hr13) (R := ?rr13) rfl rfl rfl ?hin13 ?hc13 ?hk13
      case hin13 => repeat' (first | exact Cover.nil | exact Take.here | apply Cover.cons | apply Take.there)
      case hc13 => intro ρ' hρ hR; exact unit_ok n hF.vars ca cc F (hF.fm.mono hρ) (fun h => hL.ok h) a1 k1 o1 (RSl.of_own (Take.ro (A := OwnSl 3 1 a1 o1.length k1 (o1.map encI)) (by repeat' (first | exact Take.here | apply Take.there)) hR)) (by omega) hoI
      rintro _ _ ⟨o3, a3, k3, ok3, e3, hS3, rfl, rfl⟩
      obtain ⟨rfl, rfl, rfl⟩ := hS3.unique hokF (hS1.again hokF)
      refine g_pure (p_move rfl) rfl ?_
      refine g_pure (p_extract rfl rfl) rfl ?_
      refine g_pure (p_extract rfl rfl) rfl ?_
      refine g_pure (p_extract rfl rfl) rfl ?_
      refine g_pure (p_assign rfl) rfl ?_
      refine g_pure (p_assign rfl) rfl ?_
      refine g_pure (p_assign rfl) rfl ?_
      refine g_nil ?_
      refine g_qt ?_
      refine g_seq ?_
      refine g_region ?_
      refine g_pure (p_move rfl) rfl ?_
      refine g_pure (p_move rfl) rfl ?_
      refine g_yes rfl rfl ?_
      refine g_pure (p_move rfl) rfl ?_
      refine g_yes rfl rfl ?_
      refine g_pure (p_eql rfl rfl) rfl ?_
      first | refine g_pure (p_pickt rfl rfl) rfl ?_ | refine g_pure (p_pickf rfl rfl) rfl ?_
      refine g_pure (p_move rfl) rfl ?_
      refine g_yes rfl rfl ?_
      refine g_pure (p_move rfl) rfl ?_
      refine g_yes rfl rfl ?_
      refine g_pure (p_move rfl) rfl ?_
      refine g_yes rfl rfl ?_
      refine g_call (Hin := []) (Hr := ?hr14) (R := ?rr14) rfl rfl rfl ?hin14 ?hc14 ?hk14
      case hin14 => repeat' (first | exact Cover.nil | exact Take.here | apply Cover.cons | apply Take.there)
      case hc14 => intro ρ' hρ hR; exact ints_ok (xs := o3) (ys := o3) (RSl.of_own (Take.ro (A := OwnSl 3 1 a3 o3.length k3 (o3.map encI)) (by repeat' (first | exact Take.here | apply Take.there)) hR)) (RSl.of_own (Take.ro (A := OwnSl 3 1 a1 o3.length k1 (o3.map encI)) (by repeat' (first | exact Take.here | apply Take.there)) hR)) (by omega) (by omega)
      rintro _ _ ⟨rfl, rfl⟩
      rw [decide_eq_true rfl]
      first | refine g_pure (p_pickt rfl rfl) rfl ?_ | refine g_pure (p_pickf rfl rfl) rfl ?_
      refine g_pure (p_move rfl) rfl ?_
      refine g_yes rfl rfl ?_
      refine g_call (Hin := []) (Hr := ?hr15) (R := ?rr15) rfl rfl rfl ?hin15 ?hc15 ?hk15
      case hin15 => repeat' (first | exact Cover.nil | exact Take.here | apply Cover.cons | apply Take.there)
      case hc15 => intro ρ' hρ hR; exact awake_ok
      rintro _ _ ⟨rfl, rfl⟩
      first | refine g_pure (p_pickt rfl rfl) rfl ?_ | refine g_pure (p_pickf rfl rfl) rfl ?_
      refine g_pure (p_assign rfl) rfl ?_
      refine g_nil ?_
      refine g_qt ?_
      refine g_ret ?_
      exact g_post (Ho := []) (rs := [.tmp 4]) rfl (.tmp rfl .nil) rfl .nil
end Go.Proofs.Ytbpgblbhikeglaa
