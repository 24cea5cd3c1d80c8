/- Chapter 4, the document: components. Conditions: none. -/
import Derived.Test.YtmefecnjliadaaaGb
import Derived.Test.YtmefecnjliadaaaNx
namespace Go.Z.Gr
set_option maxRecDepth 8000
set_option linter.unusedVariables false
set_option linter.unusedSimpArgs false
set_option linter.unusedSectionVars false
open Go Go.Z Go.Z.Gra
open Classical in
noncomputable def relE (E : Ed) (u w : Nat) : Bool := decide (Rc E u w)
open Classical in
theorem relE_iff {E : Ed} {u w : Nat} : relE E u w = true ↔ Rc E u w := by unfold relE; exact decide_eq_true_iff
noncomputable def reachL (E : Ed) (n s : Nat) : List Bool := (List.range n).map fun u => relE E s u
theorem reachL_ok (E : Ed) (n s : Nat) : RchOk E n s (reachL E n s) := by
  refine ⟨by simp [reachL], fun u h1 h2 => ?_⟩
  obtain ⟨x, rfl⟩ : ∃ x : Nat, u = x := ⟨u.toNat, by omega⟩
  rw [getB_nat (by simp [reachL]; omega)]
  unfold reachL
  rw [List.getElem_map, List.getElem_range]
  exact relE_iff
noncomputable def rowB (E : Ed) (n s : Nat) : List Value := (reachL E n s).map encB
theorem rowB_len (E : Ed) (n s : Nat) : (rowB E n s).length = n := by simp [rowB, reachL]
theorem rowB_at {E : Ed} {n s w : Nat} (h : w < n) : (rowB E n s)[w]? = some (.bool (relE E s w)) := by
  unfold rowB reachL
  rw [List.getElem?_map, List.getElem?_map, List.getElem?_range h]; rfl
noncomputable def rowsB (E : Ed) (n k : Nat) : List (List Value) := (List.range k).map (rowB E n)
theorem rowsB_len (E : Ed) (n k : Nat) : (rowsB E n k).length = k := by simp [rowsB]
theorem rowsB_succ (E : Ed) (n k : Nat) : rowsB E n (k + 1) = rowsB E n k ++ [rowB E n k] := by simp [rowsB, List.range_succ]
theorem rowsB_at {ρ : Nat → Obj → Prop} {a : Option Addr} {E : Ed} {n : Nat} (h : RSl2 ρ a (rowsB E n n)) {u w : Nat} (hu : u < n) (hw : w < n) :
    ∃ b off cs T fz ai ci bl ol cl Tl zl, a = some ⟨b, off, none⟩ ∧ ρ b (.cells (cs : List Value).toArray T fz) ∧ cs[off + (u : Int).toNat * 1]? = some (.slice ai n ci) ∧ ai = some ⟨bl, ol, none⟩ ∧ ρ bl (.cells (cl : List Value).toArray Tl zl) ∧ cl[ol + (w : Int).toNat * 1]? = some (.bool (relE E u w)) := by
  obtain ⟨b, off, cs, T, fz, h1, h2, h3⟩ := RSl2.at h (by rw [rowsB_len]; omega)
  obtain ⟨ai, ci, h4, h5⟩ := h3 u (by rw [rowsB_len]; exact hu)
  have e : (rowsB E n n)[u]'(by rw [rowsB_len]; exact hu) = rowB E n u := by simp [rowsB]
  rw [e, rowB_len] at h4 h5
  obtain ⟨_, bl, ol, cl, Tl, zl, h6⟩ := h5
  obtain ⟨g1, g2, g3⟩ := h6 (by omega)
  exact ⟨b, off, cs, T, fz, ai, ci, bl, ol, cl, Tl, zl, h1, h2, by rw [Int.toNat_natCast, Nat.mul_one]; exact h4, g1, g2, by rw [Int.toNat_natCast, Nat.mul_one]; exact g3 w _ (rowB_at hw)⟩
/-- each reaches the other -/
noncomputable def rB (E : Ed) (u w : Nat) : Bool := relE E u w && relE E w u
theorem rB_iff {E : Ed} {u w : Nat} : rB E u w = true ↔ Rc E u w ∧ Rc E w u := by unfold rB; rw [Bool.and_eq_true, relE_iff, relE_iff]
noncomputable def dnB (E : Ed) (v u : Nat) : Bool := (List.range v).any fun l => rB E l u
theorem dnB_iff {E : Ed} {v u : Nat} : dnB E v u = true ↔ ∃ l, l < v ∧ Rc E l u ∧ Rc E u l := by
  unfold dnB
  rw [List.any_eq_true]
  constructor
  · rintro ⟨l, h1, h2⟩; exact ⟨l, List.mem_range.1 h1, rB_iff.1 h2⟩
  · rintro ⟨l, h1, h2⟩; exact ⟨l, List.mem_range.2 h1, rB_iff.2 h2⟩
noncomputable def clsB (E : Ed) (v w : Nat) : List Nat := (List.range w).filter fun x => rB E v x
theorem clsB_succ (E : Ed) (v w : Nat) : clsB E v (w + 1) = clsB E v w ++ if rB E v w = true then [w] else [] := by
  unfold clsB
  rw [List.range_succ, List.filter_append]
  congr 1
  by_cases h : rB E v w = true
  · rw [if_pos h, List.filter_cons, if_pos h]; rfl
  · rw [if_neg h, List.filter_cons, if_neg h]; rfl
theorem clsB_len (E : Ed) (v w : Nat) : (clsB E v w).length ≤ w := by
  have := List.length_filter_le (fun x => rB E v x) (List.range w)
  rw [List.length_range] at this
  exact this
noncomputable def partsK (E : Ed) (m k : Nat) : List (List Nat) := ((List.range k).filter fun v => !dnB E v v).map fun v => clsB E v m
theorem partsK_len (E : Ed) (m k : Nat) : (partsK E m k).length ≤ k := by
  unfold partsK
  rw [List.length_map]
  have := List.length_filter_le (fun v => !dnB E v v) (List.range k)
  rwa [List.length_range] at this
theorem partsK_skip {E : Ed} {m v : Nat} (h : dnB E v v = true) : partsK E m (v + 1) = partsK E m v ∧ ∀ u, dnB E (v + 1) u = dnB E v u := by
  refine ⟨?_, fun u => ?_⟩
  · unfold partsK
    rw [List.range_succ, List.filter_append, List.filter_cons, if_neg (by rw [h]; decide)]
    simp
  · rw [Bool.eq_iff_iff, dnB_iff, dnB_iff]
    constructor
    · rintro ⟨l, h1, h2, h3⟩
      by_cases e : l = v
      · subst e
        obtain ⟨x, x1, x2, x3⟩ := dnB_iff.1 h
        exact ⟨x, x1, x2.trans h2, h3.trans x3⟩
      · exact ⟨l, by omega, h2, h3⟩
    · rintro ⟨l, h1, h2⟩; exact ⟨l, by omega, h2⟩
theorem partsK_new {E : Ed} {m v : Nat} (h : dnB E v v = false) : partsK E m (v + 1) = partsK E m v ++ [clsB E v m] ∧ clsB E v v = [] ∧ ∀ u, dnB E (v + 1) u = (dnB E v u || rB E v u) := by
  refine ⟨?_, ?_, fun u => ?_⟩
  · unfold partsK
    rw [List.range_succ, List.filter_append, List.filter_cons, if_pos (by rw [h]; rfl)]
    simp
  · unfold clsB
    rw [List.filter_eq_nil_iff]
    intro x hx hr
    have hr := rB_iff.1 hr
    have := dnB_iff.2 ⟨x, List.mem_range.1 hx, hr.2, hr.1⟩
    rw [h] at this; cases this
  · rw [Bool.eq_iff_iff, Bool.or_eq_true, dnB_iff, dnB_iff, rB_iff]
    constructor
    · rintro ⟨l, h1, h2⟩
      by_cases e : l = v
      · subst e; exact .inr h2
      · exact .inl ⟨l, by omega, h2⟩
    · rintro (⟨l, h1, h2⟩ | h2)
      · exact ⟨l, by omega, h2⟩
      · exact ⟨v, by omega, h2⟩
open Classical in
theorem partsK_all (E : Ed) (m : Nat) : (partsK E m m).map (fun l : List Nat => l.map eN) = (partsP E m).map fun l : List Int => l.map Z.encI := by
  have e : partsK E m m = partsC m fun u v => Rc E u v ∧ Rc E v u := by
    unfold partsK partsC
    have e1 : (List.range m).filter (fun v => !dnB E v v) = (List.range m).filter fun v => decide (∀ u : Nat, u < v → ¬ (Rc E u v ∧ Rc E v u)) := List.filter_congr fun v _ => by
      rw [Bool.eq_iff_iff, Bool.not_eq_true', decide_eq_true_iff]
      constructor
      · intro h u hu hr
        rw [dnB_iff.2 ⟨u, hu, hr⟩] at h; cases h
      · intro h
        cases e : dnB E v v with
        | false => rfl
        | true => obtain ⟨l, h1, h2⟩ := dnB_iff.1 e; exact absurd h2 (h l h1)
    rw [e1]
    refine List.map_congr_left fun v _ => ?_
    unfold clsB
    exact List.filter_congr fun w _ => by rw [Bool.eq_iff_iff, rB_iff, decide_eq_true_iff]
  unfold partsP
  rw [e, List.map_map]
  refine List.map_congr_left fun l _ => ?_
  show l.map eN = (l.map fun x : Nat => (x : Int)).map Z.encI
  rw [List.map_map]; rfl
/-- what is marked while the class of v is gathered -/
noncomputable def dnW (E : Ed) (v w u : Nat) : Bool := dnB E v u || (decide (u < w) && rB E v u)
theorem dnW_start {E : Ed} {v : Nat} (h : clsB E v v = []) (u : Nat) : dnW E v v u = dnB E v u := by
  unfold dnW
  by_cases hu : u < v
  · have : rB E v u = false := by
      cases e : rB E v u with
      | false => rfl
      | true =>
        have : u ∈ clsB E v v := by unfold clsB; rw [List.mem_filter]; exact ⟨List.mem_range.2 hu, e⟩
        rw [h] at this; exact absurd this List.not_mem_nil
    rw [this]; simp
  · rw [decide_eq_false hu]; simp
theorem dnW_end {E : Ed} {v m u : Nat} (hu : u < m) : dnW E v m u = (dnB E v u || rB E v u) := by unfold dnW; rw [decide_eq_true hu, Bool.true_and]
theorem dnW_no {E : Ed} {v w : Nat} (h : rB E v w = false) (u : Nat) : dnW E v (w + 1) u = dnW E v w u := by
  unfold dnW
  by_cases e : u = w
  · subst e; rw [h]; simp
  · rw [decide_eq_decide.2 (show u < w + 1 ↔ u < w by omega)]
theorem dnW_yes {E : Ed} {v w : Nat} (h : rB E v w = true) : Gra.upd (dnW E v w) w true = dnW E v (w + 1) := by
  funext u
  unfold Gra.upd dnW
  by_cases e : u = w
  · subst e; rw [if_pos rfl, h, decide_eq_true (Nat.lt_succ_self u)]; simp
  · rw [if_neg e, decide_eq_decide.2 (show u < w + 1 ↔ u < w by omega)]
theorem cellsH_eq {n : Nat} {g g' : Nat → Bool} (h : ∀ i, i < n → g i = g' i) : cellsH n g = cellsH n g' := by
  unfold cellsH
  exact List.map_congr_left fun i hi => by rw [h i (List.mem_range.1 hi)]
end Go.Z.Gr
namespace Go.Proofs.Ytmefecnjliadaaa
set_option maxRecDepth 8000
set_option linter.unusedVariables false
set_option linter.unusedSimpArgs false
set_option linter.unusedSectionVars false
open Go Go.Z Go.Z.Gr Go.Z.Gra
theorem rreachL_ok {ρ : Nat → Obj → Prop} (n : Nat) (hn : n ≤ 4096) (E : Ed) (ho : EdOk n E) (hlE : E.length ≤ 1000000) (na : Option Addr) (nc : Nat) (hN : NbR ρ na n fun v => tosP E v) (s : Nat) (hs : s < n) :
    Con Try.prog ρ 34 #[.slice na n nc, .int .i64 s, .int .i64 0] [] (fun r H => ∃ a' c', r = .slice a' (rowB E n s).length c' ∧ H = [OwnSl 4 1 a' (rowB E n s).length c' (rowB E n s)]) := by
  have h := rreach_ok n hn E ho hlE na nc hN (s : Int) ⟨by omega, by omega⟩
  refine h.mono fun r H hr => ?_
  obtain ⟨a', c', out, rfl, rfl, hR⟩ := hr
  have e := hR.unique (reachL_ok E n s)
  subst e
  exact ⟨a', c', by rw [rowB_len], by rw [rowB_len]; rfl⟩
theorem rparts_ok {ρ : Nat → Obj → Prop} (n : Int) (a : Option Addr) (c : Nat) (E : Ed) (hE : EdR ρ a E) (hlE : E.length ≤ 1000000) :
    Con Try.prog ρ 19 #[.int .i64 n, .slice a E.length c] [] (fun r H => ∃ a' c', r = .tuple #[.slice a' (partsA n E).1.length c', .int .i64 (partsA n E).2] ∧ H = [Own2 24 3 a' c' ((partsA n E).1.map fun l : List Int => l.map Z.encI)]) := by
  refine con_intro Try.func19 Try.call19 rfl Try.ntmps19 rfl (L := [(0, _), (1, _)]) rfl fun w hh => ?_
  refine g_seq ?_
  refine g_region ?_
  refine g_pure (p_assign rfl) rfl ?_
  refine g_pure (p_assign rfl) rfl ?_
  refine g_nil ?_
  refine g_qt ?_
  refine g_seq ?_
  refine g_seq ?_
  refine g_region ?_
  refine g_pure (p_move rfl) rfl ?_
  refine g_pure (p_move rfl) rfl ?_
  refine g_call (Hin := []) (Hr := ?hr1) (R := ?rr1) rfl rfl rfl ?hin1 ?hc1 ?hk1
  case hin1 => repeat' (first | exact Cover.nil | exact Take.here | apply Cover.cons | apply Take.there)
  case hc1 => intro ρ' hρ hR; exact right_ok n a c E (hE.mono hρ) (by omega)
  rintro _ _ ⟨rfl, rfl⟩
  refine g_pure (p_not rfl) rfl ?_
  refine g_nil ?_
  refine g_qt ?_
  cases hv : validP n E [] with
  | false =>
    refine g_ift rfl ?_
    refine g_seq ?_
    refine g_region ?_
    refine g_pure (p_assign rfl) rfl ?_
    refine g_pure (p_assign rfl) rfl ?_
    refine g_nil ?_
    refine g_qt ?_
    refine g_ret ?_
    refine g_qt_ret ?_
    have hA : partsA n E = ([], 2) := by unfold partsA; rw [if_neg (by rw [hv]; simp)]
    rw [hA]
    refine g_ownnil (e := 24) (size := 1) ?_
    refine g_nils (eo := 24) (ei := 3) (k := 0) .here ?_
    exact g_post (rs := [.tmp 4, .tmp 5]) rfl (.tmp rfl (.tmp rfl .nil)) ⟨none, 0, rfl, rfl⟩ (by repeat' (first | exact Cover.nil | exact Take.here | apply Cover.cons | apply Take.there))
  | true =>
    have hn0 : 0 ≤ n ∧ n ≤ 4096 := by
      have := hv
      unfold validP at this
      rw [Bool.and_eq_true, Bool.and_eq_true] at this
      exact of_decide_eq_true this.1.1
    obtain ⟨m, rfl⟩ : ∃ m : Nat, n = m := ⟨n.toNat, by omega⟩
    obtain ⟨hm, ho⟩ := valid_edok hv
    refine g_iff rfl ?_
    refine g_skip ?_
    refine g_qt ?_
    refine g_seq ?_
    refine g_region ?_
    refine g_pure (p_move rfl) rfl ?_
    refine g_pure (p_move rfl) rfl ?_
    refine g_call (Hin := []) (Hr := ?hr2) (R := ?rr2) rfl rfl rfl ?hin2 ?hc2 ?hk2
    case hin2 => repeat' (first | exact Cover.nil | exact Take.here | apply Cover.cons | apply Take.there)
    case hc2 => intro ρ' hρ hR; exact next_ok m a c E (hE.mono hρ) hlE hm ho
    rintro _ _ ⟨na, nc, rfl, rfl⟩
    refine g_freeze (A := Own2 _ _ na nc _) (by repeat' (first | exact Take.here | apply Take.there)) ?_
    intro ρ1 hρ1 hNo
    have hN : NbR ρ1 na m (fun v => tosP E v) := Own2.ro hNo
    clear hNo
    refine g_ownnil (e := 31) (size := 1) ?_
    refine g_nils (eo := 31) (ei := 4) (k := 0) .here ?_
    refine g_pure (p_assign rfl) rfl ?_
    refine g_nil ?_
    refine g_qt ?_
    refine g_seq ?_
    refine g_region ?_
    refine g_pure (p_assign rfl) rfl ?_
    refine g_nil ?_
    refine g_qt ?_
    refine g_seq ?_
    refine g_seq ?_
    refine g_region ?_
    refine g_pure (p_assign rfl) rfl ?_
    refine g_nil ?_
    refine g_qt ?_
    refine g_block ?_
    refine g_loop (fun s : Nat × Option Addr × Nat => [(0, .int .i64 m), (6, .slice na m nc), (7, .slice s.2.1 (rowsB E m s.1).length s.2.2), (8, .int .i64 s.1)])
      (fun s => [Own2 31 4 s.2.1 s.2.2 (rowsB E m s.1)]) (fun s => s.1 ≤ m) (fun s => m - s.1) (0, none, 0) (Nat.zero_le _) (by (repeat (first | exact trivial | refine ⟨by rfl, ?_⟩)); done) (by repeat' (first | exact Cover.nil | exact Take.here | apply Cover.cons | apply Take.there)) ?_
    rintro ⟨k, oa, oc⟩ hk
    dsimp only at hk ⊢
    refine g_seq ?_
    refine g_seq ?_
    refine g_region ?_
    refine g_pure (p_move rfl) rfl ?_
    refine g_pure (p_move rfl) rfl ?_
    refine g_pure (p_lss rfl rfl) rfl ?_
    refine g_nil ?_
    refine g_qt ?_
    refine g_ifd rfl (fun q => ?_) (fun q => ?_)
    · have hk' : k < m := by omega
      have hrl := rowsB_len E m k
      have hsn := rowsB_succ E m k
      have hlen : (rowsB E m k).length + 1 = (rowsB E m (k + 1)).length := by rw [hsn, List.length_append]; rfl
      refine g_skip ?_
      refine g_qt ?_
      refine g_seq ?_
      refine g_block ?_
      refine g_region ?_
      refine g_pure (p_move rfl) rfl ?_
      refine g_pure (p_move rfl) rfl ?_
      refine g_pure (p_move rfl) rfl ?_
      refine g_call (Hin := []) (Hr := ?hr3) (R := ?rr3) rfl rfl rfl ?hin3 ?hc3 ?hk3
      case hin3 => repeat' (first | exact Cover.nil | exact Take.here | apply Cover.cons | apply Take.there)
      case hc3 => intro ρ' hρ hR; exact rreachL_ok m hm E ho hlE na nc (hN.mono hρ) k hk'
      rintro _ _ ⟨ra, rc, rfl, rfl⟩
      refine g_open2 (a := oa) (by repeat' (first | exact Take.here | apply Take.there)) fun hs hhs => ?_
      refine g_eff (e_bs (xs := [.tmp 29]) rfl rfl rfl (by rfl) (by rfl) rfl (by rfl)) rfl (fun _ _ => ?_)
      rintro ⟨b30, rfl, rfl⟩
      refine g_eff (e_appendO (by rfl) (by rfl) rfl rfl (by first | (apply Has.own; (repeat' (first | exact Take.here | apply Take.there)); done) | exact Has.ro (by assumption)) (by rfl) (by rfl) (by repeat' (first | exact Take.here | apply Take.there)) (by omega) (by first | omega | (dsimp only; omega) | (simp <;> omega)) (by omega)) rfl (fun _ _ => ?_)
      rintro ⟨a31, c31, rfl, rfl⟩
      refine g_pure (p_assign rfl) rfl ?_
      refine g_nil ?_
      refine g_qb ?_
      refine g_qt ?_
      refine g_region ?_
      refine g_pure (p_move rfl) rfl ?_
      first | refine g_pure (p_addi rfl rfl (by omega)) rfl ?_ | refine g_pure (p_add rfl rfl) rfl ?_
      refine g_pure (p_assign rfl) rfl ?_
      refine g_nil ?_
      refine g_qn ?_
      refine g_push2 (eo := 31) (r := rowB E m k) hhs (by repeat' (first | exact Take.here | apply Take.there)) (by repeat' (first | exact Take.here | apply Take.there)) (by repeat' (first | exact Take.here | apply Take.there)) ?_
      rw [← hsn, hlen]
      exact g_next (k + 1, a31, c31) (by (repeat (first | exact trivial | refine ⟨by rfl, ?_⟩)); done) (by repeat' (first | exact Cover.nil | exact Take.here | apply Cover.cons | apply Take.there)) (by dsimp only; omega) (by dsimp only; omega)
    · have hke : k = m := by omega
      rw [hke, rowsB_len]
      refine g_freeze (A := Own2 _ _ oa oc _) (by repeat' (first | exact Take.here | apply Take.there)) ?_
      intro ρ2 hρ2 hRo
      have hRB : RSl2 ρ2 oa (rowsB E m m) := Own2.ro hRo
      clear hRo
      refine g_exit ?_
      refine g_qt_exit ?_
      refine g_qn_exit ?_
      refine g_qb_exit ?_
      refine g_qt ?_
      refine g_seq ?_
      refine g_region ?_
      refine g_pure (p_move rfl) rfl ?_
      refine g_eff (e_make (by rfl) (by rfl) rfl rfl (by omega) (by first | omega | (dsimp only; omega)) (by omega)) rfl (fun _ _ => ?_)
      rintro ⟨b33, rfl, rfl⟩
      refine g_pure (p_assign rfl) rfl ?_
      refine g_nil ?_
      refine g_qt ?_
      refine g_seq ?_
      refine g_region ?_
      refine g_pure (p_assign rfl) rfl ?_
      refine g_nil ?_
      refine g_qt ?_
      refine g_seq ?_
      refine g_seq ?_
      refine g_region ?_
      refine g_pure (p_assign rfl) rfl ?_
      refine g_nil ?_
      refine g_qt ?_
      refine g_block ?_
      rw [Int.toNat_natCast]
      refine g_weak (B := Blk b33 (.cells (cellsH m (dnB E 0)).toArray 4 (0, 0))) .here (blk_eq (by rw [show dnB E 0 = fun _ => false from rfl]; exact (cellsH_zero m).symm)) ?_
      refine g_ownnil (e := 24) (size := 1) ?_
      refine g_nils (eo := 24) (ei := 3) (k := 0) .here ?_
      refine g_loop (fun s : Nat × Option Addr × Nat => [(0, .int .i64 m), (7, .slice oa m oc), (9, .slice (some ⟨b33, 0, none⟩) m m), (10, .slice s.2.1 (partsK E m s.1).length s.2.2), (11, .int .i64 s.1)])
        (fun s => [Blk b33 (.cells (cellsH m (dnB E s.1)).toArray 4 (0, 0)), Own2 24 3 s.2.1 s.2.2 ((partsK E m s.1).map fun l : List Nat => l.map eN)]) (fun s => s.1 ≤ m) (fun s => m - s.1) (0, none, 0) (Nat.zero_le _) (by (repeat (first | exact trivial | refine ⟨by rfl, ?_⟩)); done) (by repeat' (first | exact Cover.nil | exact Take.here | apply Cover.cons | apply Take.there)) ?_
      rintro ⟨v, ga, gc⟩ hv1
      dsimp only at hv1 ⊢
      have hpl := partsK_len E m v
      refine g_seq ?_
      refine g_seq ?_
      refine g_region ?_
      refine g_pure (p_move rfl) rfl ?_
      refine g_pure (p_move rfl) rfl ?_
      refine g_pure (p_lss rfl rfl) rfl ?_
      refine g_nil ?_
      refine g_qt ?_
      refine g_ifd rfl (fun y => ?_) (fun y => ?_)
      · have hvm : v < m := by omega
        refine g_skip ?_
        refine g_qt ?_
        refine g_seq ?_
        refine g_block ?_
        refine g_seq ?_
        refine g_seq ?_
        refine g_region ?_
        refine g_pure (p_move rfl) rfl ?_
        refine g_pure (p_move rfl) rfl ?_
        refine g_pure (p_indexAddr rfl rfl (by omega) (fun _ => rfl)) rfl ?_
        refine g_pure (p_load (by rfl) rfl (Has.own (by repeat' (first | exact Take.here | apply Take.there))) (cellsH_at hvm)) rfl ?_
        refine g_nil ?_
        refine g_qt ?_
        cases hd : dnB E v v with
        | true =>
          obtain ⟨p1, p2⟩ := partsK_skip (m := m) hd
          refine g_ift rfl ?_
          refine g_exit ?_
          refine g_qt_exit ?_
          refine g_qb_exit ?_
          refine g_qt ?_
          refine g_region ?_
          refine g_pure (p_move rfl) rfl ?_
          first | refine g_pure (p_addi rfl rfl (by omega)) rfl ?_ | refine g_pure (p_add rfl rfl) rfl ?_
          refine g_pure (p_assign rfl) rfl ?_
          refine g_nil ?_
          refine g_qn ?_
          rw [← p1]
          refine g_weak (B := Blk b33 (.cells (cellsH m (dnB E (v + 1))).toArray 4 (0, 0))) (by repeat' (first | exact Take.here | apply Take.there)) (blk_eq (cellsH_eq fun i _ => (p2 i).symm)) ?_
          exact g_next (v + 1, ga, gc) (by (repeat (first | exact trivial | refine ⟨by rfl, ?_⟩)); done) (by repeat' (first | exact Cover.nil | exact Take.here | apply Cover.cons | apply Take.there)) (by dsimp only; omega) (by dsimp only; omega)
        | false =>
          obtain ⟨p1, p2, p3⟩ := partsK_new (m := m) hd
          refine g_iff rfl ?_
          refine g_skip ?_
          refine g_qt ?_
          refine g_seq ?_
          refine g_region ?_
          refine g_pure (p_assign rfl) rfl ?_
          refine g_nil ?_
          refine g_qt ?_
          refine g_seq ?_
          refine g_seq ?_
          refine g_region ?_
          refine g_pure (p_move rfl) rfl ?_
          refine g_pure (p_assign rfl) rfl ?_
          refine g_nil ?_
          refine g_qt ?_
          refine g_block ?_
          refine g_weak (B := Blk b33 (.cells (cellsH m (dnW E v v)).toArray 4 (0, 0))) (by repeat' (first | exact Take.here | apply Take.there)) (blk_eq (cellsH_eq fun i _ => (dnW_start p2 i).symm)) ?_
          refine g_ownnil (e := 3) (size := 1) ?_
          refine g_loop (fun s : Nat × Option Addr × Nat => [(0, .int .i64 m), (7, .slice oa m oc), (9, .slice (some ⟨b33, 0, none⟩) m m), (10, .slice ga (partsK E m v).length gc), (11, .int .i64 v), (12, .slice s.2.1 (clsB E v s.1).length s.2.2), (13, .int .i64 s.1)])
            (fun s => [Blk b33 (.cells (cellsH m (dnW E v s.1)).toArray 4 (0, 0)), OwnSl 3 1 s.2.1 (clsB E v s.1).length s.2.2 ((clsB E v s.1).map eN), Own2 24 3 ga gc ((partsK E m v).map fun l : List Nat => l.map eN)]) (fun s => v ≤ s.1 ∧ s.1 ≤ m) (fun s => m - s.1) (v, none, 0) ⟨Nat.le_refl _, by dsimp only; omega⟩ (by rw [show ((v, none, 0) : Nat × Option Addr × Nat).1 = v from rfl, p2]; exact (by (repeat (first | exact trivial | refine ⟨by rfl, ?_⟩)); done)) (by rw [show ((v, none, 0) : Nat × Option Addr × Nat).1 = v from rfl, p2]; exact (by repeat' (first | exact Cover.nil | exact Take.here | apply Cover.cons | apply Take.there))) ?_
          rintro ⟨w, pa, pc⟩ ⟨hw1, hw2⟩
          dsimp only at hw1 hw2 ⊢
          have hcl := clsB_len E v w
          refine g_seq ?_
          refine g_seq ?_
          refine g_region ?_
          refine g_pure (p_move rfl) rfl ?_
          refine g_pure (p_move rfl) rfl ?_
          refine g_pure (p_lss rfl rfl) rfl ?_
          refine g_nil ?_
          refine g_qt ?_
          refine g_ifd rfl (fun x => ?_) (fun x => ?_)
          · have hwm : w < m := by omega
            obtain ⟨b1, o1, c1, T1, z1, x1, y1, b2, o2, c2, T2, z2, r1, r2, r3, r4, r5, r6⟩ := rowsB_at hRB hvm hwm
            obtain ⟨b3, o3, c3, T3, z3, x3, y3, b4, o4, c4, T4, z4, s1, s2, s3, s4, s5, s6⟩ := rowsB_at hRB hwm hvm
            have hsucc := clsB_succ E v w
            have hyes := dnW_yes (E := E) (v := v) (w := w)
            have hno := dnW_no (E := E) (v := v) (w := w)
            have hrb : rB E v w = (relE E v w && relE E w v) := rfl
            refine g_skip ?_
            refine g_qt ?_
            refine g_seq ?_
            refine g_block ?_
            refine g_seq ?_
            refine g_region ?_
            refine g_pure (p_move rfl) rfl ?_
            refine g_pure (p_move rfl) rfl ?_
            refine g_pure (p_indexAddr rfl rfl (by omega) (fun _ => r1)) rfl ?_
            refine g_pure (p_load (by rfl) rfl (Has.ro r2) r3) rfl ?_
            refine g_pure (p_move rfl) rfl ?_
            refine g_pure (p_indexAddr rfl rfl (by omega) (fun _ => r4)) rfl ?_
            refine g_pure (p_load (by rfl) rfl (Has.ro r5) r6) rfl ?_
            refine g_pure (p_move rfl) rfl ?_
            cases h1 : relE E v w with
            | true =>
              refine g_yes rfl rfl ?_
              refine g_pure (p_move rfl) rfl ?_
              refine g_yes rfl rfl ?_
              refine g_pure (p_move rfl) rfl ?_
              refine g_yes rfl rfl ?_
              refine g_pure (p_indexAddr rfl rfl (by omega) (fun _ => s1)) rfl ?_
              refine g_yes rfl rfl ?_
              refine g_pure (p_load (by rfl) rfl (Has.ro s2) s3) rfl ?_
              refine g_yes rfl rfl ?_
              refine g_pure (p_move rfl) rfl ?_
              refine g_yes rfl rfl ?_
              refine g_pure (p_indexAddr rfl rfl (by omega) (fun _ => s4)) rfl ?_
              refine g_yes rfl rfl ?_
              refine g_pure (p_load (by rfl) rfl (Has.ro s5) s6) rfl ?_
              first | refine g_pure (p_pickt rfl rfl) rfl ?_ | refine g_pure (p_pickf rfl rfl) rfl ?_
              refine g_nil ?_
              refine g_qt ?_
              cases h2 : relE E w v with
              | true =>
                have hr : rB E v w = true := by rw [hrb, h1, h2]; rfl
                rw [if_pos hr] at hsucc
                have hy := hyes hr
                refine g_ift rfl ?_
                refine g_seq ?_
                refine g_region ?_
                refine g_pure (p_move rfl) rfl ?_
                refine g_pure (p_move rfl) rfl ?_
                refine g_eff (e_bs (xs := [.tmp 66]) rfl rfl rfl (by rfl) (by rfl) rfl (by rfl)) rfl (fun _ _ => ?_)
                rintro ⟨b67, rfl, rfl⟩
                refine g_eff (e_appendO (by rfl) (by rfl) rfl rfl (by first | (apply Has.own; (repeat' (first | exact Take.here | apply Take.there)); done) | exact Has.ro (by assumption)) (by rfl) (by rfl) (by repeat' (first | exact Take.here | apply Take.there)) (by omega) (by first | omega | (dsimp only; omega) | (simp <;> omega)) (by omega)) rfl (fun _ _ => ?_)
                rintro ⟨a68, c68, rfl, rfl⟩
                refine g_pure (p_assign rfl) rfl ?_
                refine g_nil ?_
                refine g_qt ?_
                refine g_region ?_
                refine g_pure (p_move rfl) rfl ?_
                refine g_pure (p_move rfl) rfl ?_
                refine g_pure (p_indexAddr rfl rfl (by omega) (fun _ => rfl)) rfl ?_
                refine g_eff0 (e_store1 (by rfl) rfl rfl rfl (by repeat' (first | exact Take.here | apply Take.there)) (by rw [cellsH_len, Int.toNat_natCast]; show 0 + w * 1 < m; omega)) (fun _ _ => ?_)
                rintro rfl
                refine g_nil ?_
                refine g_qb ?_
                refine g_qt ?_
                refine g_region ?_
                refine g_pure (p_move rfl) rfl ?_
                first | refine g_pure (p_addi rfl rfl (by omega)) rfl ?_ | refine g_pure (p_add rfl rfl) rfl ?_
                refine g_pure (p_assign rfl) rfl ?_
                refine g_nil ?_
                refine g_qn ?_
                refine g_weak (B := Blk b33 (.cells (cellsH m (dnW E v (w + 1))).toArray 4 (0, 0))) (by repeat' (first | exact Take.here | apply Take.there)) (blk_eq (by rw [cellsH_upd, hy])) ?_
                rw [show (clsB E v w).map eN ++ [Value.int IntKind.i64 (w : Int)] = (clsB E v (w + 1)).map eN by rw [hsucc, List.map_append]; rfl, show (clsB E v w).length + 1 = (clsB E v (w + 1)).length by rw [hsucc, List.length_append]; rfl]
                exact g_next (w + 1, a68, c68) (by (repeat (first | exact trivial | refine ⟨by rfl, ?_⟩)); done) (by repeat' (first | exact Cover.nil | exact Take.here | apply Cover.cons | apply Take.there)) ⟨by dsimp only; omega, by dsimp only; omega⟩ (by dsimp only; omega)
              | false =>
                have hr : rB E v w = false := by rw [hrb, h1, h2]; rfl
                rw [if_neg (by rw [hr]; decide), List.append_nil] at hsucc
                refine g_iff rfl ?_
                refine g_skip ?_
                refine g_qb ?_
                refine g_qt ?_
                refine g_region ?_
                refine g_pure (p_move rfl) rfl ?_
                first | refine g_pure (p_addi rfl rfl (by omega)) rfl ?_ | refine g_pure (p_add rfl rfl) rfl ?_
                refine g_pure (p_assign rfl) rfl ?_
                refine g_nil ?_
                refine g_qn ?_
                refine g_weak (B := Blk b33 (.cells (cellsH m (dnW E v (w + 1))).toArray 4 (0, 0))) (by repeat' (first | exact Take.here | apply Take.there)) (blk_eq (cellsH_eq fun i _ => (hno hr i).symm)) ?_
                rw [← hsucc]
                exact g_next (w + 1, pa, pc) (by (repeat (first | exact trivial | refine ⟨by rfl, ?_⟩)); done) (by repeat' (first | exact Cover.nil | exact Take.here | apply Cover.cons | apply Take.there)) ⟨by dsimp only; omega, by dsimp only; omega⟩ (by dsimp only; omega)
            | false =>
              have hr : rB E v w = false := by rw [hrb, h1]; rfl
              rw [if_neg (by rw [hr]; decide), List.append_nil] at hsucc
              refine g_no rfl rfl rfl rfl ?_
              refine g_no rfl rfl rfl rfl ?_
              refine g_no rfl rfl rfl rfl ?_
              refine g_no rfl rfl rfl rfl ?_
              refine g_no rfl rfl rfl rfl ?_
              refine g_no rfl rfl rfl rfl ?_
              refine g_no rfl rfl rfl rfl ?_
              first | refine g_pure (p_pickt rfl rfl) rfl ?_ | refine g_pure (p_pickf rfl rfl) rfl ?_
              refine g_nil ?_
              refine g_qt ?_
              refine g_iff rfl ?_
              refine g_skip ?_
              refine g_qb ?_
              refine g_qt ?_
              refine g_region ?_
              refine g_pure (p_move rfl) rfl ?_
              first | refine g_pure (p_addi rfl rfl (by omega)) rfl ?_ | refine g_pure (p_add rfl rfl) rfl ?_
              refine g_pure (p_assign rfl) rfl ?_
              refine g_nil ?_
              refine g_qn ?_
              refine g_weak (B := Blk b33 (.cells (cellsH m (dnW E v (w + 1))).toArray 4 (0, 0))) (by repeat' (first | exact Take.here | apply Take.there)) (blk_eq (cellsH_eq fun i _ => (hno hr i).symm)) ?_
              rw [← hsucc]
              exact g_next (w + 1, pa, pc) (by (repeat (first | exact trivial | refine ⟨by rfl, ?_⟩)); done) (by repeat' (first | exact Cover.nil | exact Take.here | apply Cover.cons | apply Take.there)) ⟨by dsimp only; omega, by dsimp only; omega⟩ (by dsimp only; omega)
          · have hwe : w = m := by omega
            rw [hwe]
            rw [show (clsB E v m).length = ((clsB E v m).map eN).length from (List.length_map _).symm]
            have hrl : ((partsK E m v).map fun l : List Nat => l.map eN).length = (partsK E m v).length := List.length_map _
            rw [show (partsK E m v).length = ((partsK E m v).map fun l : List Nat => l.map eN).length from hrl.symm]
            refine g_open2 (a := ga) (by repeat' (first | exact Take.here | apply Take.there)) fun hs hhs => ?_
            refine g_exit ?_
            refine g_qt_exit ?_
            refine g_qn_exit ?_
            refine g_qb_exit ?_
            refine g_qt ?_
            refine g_region ?_
            refine g_pure (p_move rfl) rfl ?_
            refine g_pure (p_move rfl) rfl ?_
            refine g_eff (e_bs (xs := [.tmp 73]) rfl rfl rfl (by rfl) (by rfl) rfl (by rfl)) rfl (fun _ _ => ?_)
            rintro ⟨b74, rfl, rfl⟩
            refine g_eff (e_appendO (by rfl) (by rfl) rfl rfl (by first | (apply Has.own; (repeat' (first | exact Take.here | apply Take.there)); done) | exact Has.ro (by assumption)) (by rfl) (by rfl) (by repeat' (first | exact Take.here | apply Take.there)) (by omega) (by first | omega | (dsimp only; omega) | (simp <;> omega)) (by omega)) rfl (fun _ _ => ?_)
            rintro ⟨a75, c75, rfl, rfl⟩
            refine g_pure (p_assign rfl) rfl ?_
            refine g_nil ?_
            refine g_qb ?_
            refine g_qt ?_
            refine g_region ?_
            refine g_pure (p_move rfl) rfl ?_
            first | refine g_pure (p_addi rfl rfl (by omega)) rfl ?_ | refine g_pure (p_add rfl rfl) rfl ?_
            refine g_pure (p_assign rfl) rfl ?_
            refine g_nil ?_
            refine g_qn ?_
            refine g_push2 (eo := 24) (r := (clsB E v m).map eN) hhs (by repeat' (first | exact Take.here | apply Take.there)) (by repeat' (first | exact Take.here | apply Take.there)) (by repeat' (first | exact Take.here | apply Take.there)) ?_
            rw [show ((partsK E m v).map fun l : List Nat => l.map eN) ++ [(clsB E v m).map eN] = (partsK E m (v + 1)).map fun l : List Nat => l.map eN by rw [p1, List.map_append]; rfl, hrl, show (partsK E m v).length + 1 = (partsK E m (v + 1)).length by rw [p1, List.length_append]; rfl]
            refine g_weak (B := Blk b33 (.cells (cellsH m (dnB E (v + 1))).toArray 4 (0, 0))) (by repeat' (first | exact Take.here | apply Take.there)) (blk_eq (cellsH_eq fun i hi => by rw [p3, dnW_end hi])) ?_
            exact g_next (v + 1, a75, c75) (by (repeat (first | exact trivial | refine ⟨by rfl, ?_⟩)); done) (by repeat' (first | exact Cover.nil | exact Take.here | apply Cover.cons | apply Take.there)) (by dsimp only; omega) (by dsimp only; omega)
      · have hve : v = m := by omega
        have hA : partsA m E = (partsP E m, 0) := by unfold partsA; rw [if_pos hv, Int.toNat_natCast]
        have hall := partsK_all E m
        have hln : (partsK E m m).length = (partsP E m).length := by
          have := congrArg List.length hall
          rw [List.length_map, List.length_map] at this
          exact this
        subst hve
        rw [hA, hall, hln]
        refine g_exit ?_
        refine g_qt_exit ?_
        refine g_qn_exit ?_
        refine g_qb_exit ?_
        refine g_qt ?_
        refine g_seq ?_
        refine g_region ?_
        refine g_pure (p_move rfl) rfl ?_
        refine g_pure (p_assign rfl) rfl ?_
        refine g_pure (p_assign rfl) rfl ?_
        refine g_nil ?_
        refine g_qt ?_
        refine g_ret ?_
        refine g_thaw hρ2 ?_
        refine g_thaw hρ1 ?_
        exact g_post (rs := [.tmp 4, .tmp 5]) rfl (.tmp rfl (.tmp rfl .nil)) ⟨ga, gc, rfl, rfl⟩ (by repeat' (first | exact Cover.nil | exact Take.here | apply Cover.cons | apply Take.there))
end Go.Proofs.Ytmefecnjliadaaa
