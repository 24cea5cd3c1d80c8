/- Chapter 4, the document: the least order. Conditions: none. -/
import Derived.Test.YtmefecnjliadaaaNz
namespace Go.Z.Gr
set_option maxRecDepth 8000
set_option linter.unusedVariables false
set_option linter.unusedSimpArgs false
set_option linter.unusedSectionVars false
open Go Go.Z
def cellsZ (n : Nat) (g : Nat → Int) : List Value := (List.range n).map fun u => .int .i64 (g u)
theorem cellsZ_len (n : Nat) (g : Nat → Int) : (cellsZ n g).length = n := by simp [cellsZ]
theorem cellsZ_at0 {n : Nat} {g : Nat → Int} {u : Nat} (h : u < n) : (cellsZ n g)[u]? = some (.int .i64 (g u)) := by
  unfold cellsZ; rw [List.getElem?_map, List.getElem?_range h]; rfl
theorem cellsZ_at {n : Nat} {g : Nat → Int} {u : Nat} (h : u < n) : (cellsZ n g)[0 + (u : Int).toNat * 1]? = some (.int .i64 (g u)) := by
  rw [Int.toNat_natCast, Nat.zero_add, Nat.mul_one]; exact cellsZ_at0 h
theorem cellsZ_set {n : Nat} {g g' : Nat → Int} {u : Nat} {x : Int} (hx : g' u = x) (h : ∀ i, i < n → i ≠ u → g' i = g i) : (cellsZ n g).set (0 + (u : Int).toNat * 1) (.int .i64 x) = cellsZ n g' := by
  subst hx
  rw [Int.toNat_natCast, Nat.zero_add, Nat.mul_one]
  refine List.ext_getElem? fun i => ?_
  rw [List.getElem?_set]
  by_cases e : u = i
  · subst e
    rw [if_pos rfl, cellsZ_len]
    by_cases hi : u < n
    · rw [if_pos hi, cellsZ_at0 hi]
    · rw [if_neg hi, List.getElem?_eq_none (by rw [cellsZ_len]; omega)]
  · rw [if_neg e]
    by_cases hi : i < n
    · rw [cellsZ_at0 hi, cellsZ_at0 hi, h i hi (fun x => e x.symm)]
    · rw [List.getElem?_eq_none (by rw [cellsZ_len]; omega), List.getElem?_eq_none (by rw [cellsZ_len]; omega)]
theorem cellsZ_eq {n : Nat} {g g' : Nat → Int} (h : ∀ i, i < n → g i = g' i) : cellsZ n g = cellsZ n g' := by
  unfold cellsZ
  exact List.map_congr_left fun i hi => by rw [h i (List.mem_range.1 hi)]
theorem cellsZ_zero (n : Nat) : cellsZ n (fun _ => 0) = List.replicate n (.int .i64 0) := by
  unfold cellsZ
  rw [List.map_const', List.length_range]
/-- edges to u that wait -/
def cntW (E : Ed) (out : List Int) (u : Int) : Nat := E.countP fun e => decide (e.2 = u ∧ e.1 ∉ out)
theorem cntW_le (E : Ed) (out : List Int) (u : Int) : cntW E out u ≤ E.length := List.countP_le_length
theorem cntW_take {E : Ed} {k : Nat} (hk : k < E.length) (u : Int) : cntW (E.take (k + 1)) [] u = cntW (E.take k) [] u + if E[k].2 = u then 1 else 0 := by
  unfold cntW
  rw [take_snoc hk, List.countP_append, List.countP_singleton]
  congr 1
  by_cases h : E[k].2 = u
  · rw [if_pos h, if_pos (decide_eq_true ⟨h, List.not_mem_nil⟩)]
  · rw [if_neg h, if_neg (by simp [h])]
theorem cntW_step {out : List Int} {v : Int} (hv : v ∉ out) (u : Int) : ∀ E : Ed, cntW E out u = cntW E (out ++ [v]) u + (tosP E v).count u
  | [] => rfl
  | e :: E => by
    have ih := cntW_step hv u E
    unfold cntW tosP at ih ⊢
    rw [List.countP_cons, List.countP_cons, ih, List.filter_cons]
    by_cases h1 : e.1 = v
    · rw [if_pos (decide_eq_true h1), List.map_cons, List.count_cons]
      have ho : decide (e.2 = u ∧ e.1 ∉ out ++ [v]) = false := decide_eq_false (fun h => h.2 (by rw [h1]; exact List.mem_append_right _ List.mem_cons_self))
      rw [ho]
      by_cases h2 : e.2 = u
      · rw [decide_eq_true (p := e.2 = u ∧ e.1 ∉ out) ⟨h2, by rw [h1]; exact hv⟩]
        simp [h2]
        omega
      · rw [decide_eq_false (p := e.2 = u ∧ e.1 ∉ out) (fun h => h2 h.1)]
        simp [h2]
    · rw [if_neg (c := decide (e.1 = v) = true) (by simpa using h1)]
      have hm : e.1 ∉ out ++ [v] ↔ e.1 ∉ out := by
        rw [List.mem_append, List.mem_singleton, not_or]
        exact ⟨fun h => h.1, fun h => ⟨h, h1⟩⟩
      rw [decide_eq_decide.2 (show (e.2 = u ∧ e.1 ∉ out ++ [v]) ↔ (e.2 = u ∧ e.1 ∉ out) by rw [hm])]
      omega
def waitZ (E : Ed) (out : List Int) (u : Nat) : Int := if (u : Int) ∈ out then -1 else (cntW E out u : Int)
theorem waitZ_zero {E : Ed} {n : Nat} (ho : EdOk n E) {out : List Int} {u : Nat} : waitZ E out u = 0 ↔ ready E n out u = true := by
  rw [ready_iff]
  have hp : pend E n out u = 0 ↔ cntW E out u = 0 := by
    unfold pend cntW
    rw [List.countP_eq_zero, List.countP_eq_zero]
    constructor
    · intro h e he hc
      obtain ⟨h1, h2⟩ := of_decide_eq_true hc
      have hin := (ho _ he).1
      refine h e.1.toNat (List.mem_range.2 (by omega)) (decide_eq_true ?_)
      rw [show ((e.1.toNat : Nat) : Int) = e.1 by omega, ← h1]
      exact ⟨h2, he⟩
    · intro h x _ hc
      obtain ⟨h1, h2⟩ := of_decide_eq_true hc
      exact h _ h2 (decide_eq_true ⟨rfl, h1⟩)
  unfold waitZ
  by_cases hm : (u : Int) ∈ out
  · rw [if_pos hm]
    exact ⟨fun h => absurd h (by decide), fun h => absurd hm h.1⟩
  · rw [if_neg hm, hp]
    exact ⟨fun h => ⟨hm, by omega⟩, fun h => by omega⟩
/-- while the successors of v are worked off -/
def waitJ (E : Ed) (out : List Int) (v : Int) (j : Nat) (u : Nat) : Int := if (u : Int) ∈ out ++ [v] then -1 else (cntW E out u : Int) - (((tosP E v).take j).count (u : Int) : Nat)
theorem waitJ_zero {E : Ed} {out : List Int} {v : Nat} {u : Nat} (h : u ≠ v) : waitJ E out v 0 u = waitZ E out u := by
  unfold waitJ waitZ
  rw [List.take_zero]
  have hm : (u : Int) ∈ out ++ [(v : Int)] ↔ (u : Int) ∈ out := by
    rw [List.mem_append, List.mem_singleton]
    exact ⟨fun g => g.resolve_right (by omega), .inl⟩
  by_cases g : (u : Int) ∈ out
  · rw [if_pos g, if_pos (hm.2 g)]
  · rw [if_neg g, if_neg (fun x => g (hm.1 x))]; simp
theorem waitJ_self {E : Ed} {out : List Int} {v j : Nat} : waitJ E out v j v = -1 := if_pos (List.mem_append_right _ List.mem_cons_self)
theorem waitJ_end {E : Ed} {out : List Int} {v : Int} (hv : v ∉ out) (u : Nat) : waitJ E out v (tosP E v).length u = waitZ E (out ++ [v]) u := by
  unfold waitJ waitZ
  rw [List.take_length]
  have := cntW_step hv (u : Int) E
  by_cases g : (u : Int) ∈ out ++ [v]
  · rw [if_pos g, if_pos g]
  · rw [if_neg g, if_neg g]; omega
theorem waitJ_step {E : Ed} {out : List Int} {v : Int} {j w : Nat} (hj : j < (tosP E v).length) (hw : (tosP E v)[j] = (w : Int)) (hno : (w : Int) ∉ out ++ [v]) : waitJ E out v (j + 1) w = waitJ E out v j w - 1 ∧ ∀ u, u ≠ w → waitJ E out v (j + 1) u = waitJ E out v j u := by
  unfold waitJ
  refine ⟨?_, fun u hu => ?_⟩
  · rw [if_neg hno, if_neg hno, count_take hj, hw, if_pos rfl]; omega
  · have e := count_take hj (u : Int)
    rw [hw, if_neg (fun e => hu (by omega))] at e
    rw [e]
    rfl
theorem tosP_mem {E : Ed} {v w : Int} : w ∈ tosP E v ↔ (v, w) ∈ E := by
  unfold tosP
  rw [List.mem_map]
  constructor
  · rintro ⟨⟨x, y⟩, h1, rfl⟩
    rw [List.mem_filter, decide_eq_true_eq] at h1
    obtain ⟨h1, rfl⟩ := h1
    exact h1
  · intro h
    exact ⟨(v, w), by rw [List.mem_filter, decide_eq_true_eq]; exact ⟨h, rfl⟩, rfl⟩
/-- no successor of what comes next is out already -/
theorem OI.fresh {E : Ed} {n : Nat} {out : List Int} (h : OI E n out) {v w : Nat} (hl : leastP E n out = some v) (hw : w < n) (he : ((v : Int), (w : Int)) ∈ E) : (w : Int) ∉ out ++ [(v : Int)] := by
  obtain ⟨h1, h2, -⟩ := least_some.1 hl
  obtain ⟨h3, h4⟩ := ready_iff.1 h2
  have hp : ∀ x : Nat, pend E n out x = 0 → ((v : Int), (x : Int)) ∉ E := fun x hx hm => by
    unfold pend at hx
    have := List.countP_eq_zero.1 hx v (List.mem_range.2 h1)
    rw [decide_eq_true_iff] at this
    exact this ⟨h3, hm⟩
  rw [List.mem_append, List.mem_singleton, not_or]
  refine ⟨fun hm => hp w (h.pre w hw hm) he, fun e => ?_⟩
  have : w = v := by omega
  subst this
  exact hp w h4 he
end Go.Z.Gr
namespace Go.Proofs.Ytmefecnjliadaaa
set_option maxRecDepth 8000
set_option linter.unusedVariables false
set_option linter.unusedSimpArgs false
set_option linter.unusedSectionVars false
open Go Go.Z Go.Z.Gr
theorem rorder_ok {ρ : Nat → Obj → Prop} (n : Int) (a : Option Addr) (c : Nat) (E : Ed) (hE : EdR ρ a E) (hlE : E.length ≤ 1000000) :
    Con Try.prog ρ 11 #[.int .i64 n, .slice a E.length c] [] (fun r H => ∃ a' c', r = .tuple #[.slice a' (orderA n E).1.length c', .int .i64 (orderA n E).2] ∧ H = [OwnSl 3 1 a' (orderA n E).1.length c' ((orderA n E).1.map Z.encI)]) := by
  refine con_intro Try.func11 Try.call11 rfl Try.ntmps11 rfl (L := [(0, _), (1, _)]) rfl fun w hh => ?_
  refine g_seq ?_
  refine g_region ?_
  refine g_pure (p_assign rfl) rfl ?_
  refine g_pure (p_assign rfl) rfl ?_
  refine g_nil ?_
  refine g_qt ?_
  refine g_seq ?_
  refine g_seq ?_
  refine g_region ?_
  refine g_pure (p_move rfl) rfl ?_
  refine g_pure (p_move rfl) rfl ?_
  refine g_call (Hin := []) (Hr := ?hr1) (R := ?rr1) rfl rfl rfl ?hin1 ?hc1 ?hk1
  case hin1 => repeat' (first | exact Cover.nil | exact Take.here | apply Cover.cons | apply Take.there)
  case hc1 => intro ρ' hρ hR; exact right_ok n a c E (hE.mono hρ) (by omega)
  rintro _ _ ⟨rfl, rfl⟩
  refine g_pure (p_not rfl) rfl ?_
  refine g_nil ?_
  refine g_qt ?_
  cases hv : validP n E [] with
  | false =>
    refine g_ift rfl ?_
    refine g_seq ?_
    refine g_region ?_
    refine g_pure (p_assign rfl) rfl ?_
    refine g_pure (p_assign rfl) rfl ?_
    refine g_nil ?_
    refine g_qt ?_
    refine g_ret ?_
    refine g_qt_ret ?_
    have e : orderA n E = ([], 2) := by unfold orderA; rw [hv]; rfl
    rw [e]
    refine g_ownnil (e := 3) (size := 1) ?_
    exact g_post (rs := [.tmp 4, .tmp 5]) rfl (.tmp rfl (.tmp rfl .nil)) ⟨none, 0, rfl, rfl⟩ (by repeat' (first | exact Cover.nil | exact Take.here | apply Cover.cons | apply Take.there))
  | true =>
    have hn0 : 0 ≤ n ∧ n ≤ 4096 := by
      have := hv
      unfold validP at this
      rw [Bool.and_eq_true, Bool.and_eq_true] at this
      exact of_decide_eq_true this.1.1
    obtain ⟨m, rfl⟩ : ∃ m : Nat, n = m := ⟨n.toNat, by omega⟩
    obtain ⟨hm, ho⟩ := valid_edok hv
    refine g_iff rfl ?_
    refine g_skip ?_
    refine g_qt ?_
    refine g_seq ?_
    refine g_region ?_
    refine g_pure (p_move rfl) rfl ?_
    refine g_pure (p_move rfl) rfl ?_
    refine g_call (Hin := []) (Hr := ?hr2) (R := ?rr2) rfl rfl rfl ?hin2 ?hc2 ?hk2
    case hin2 => repeat' (first | exact Cover.nil | exact Take.here | apply Cover.cons | apply Take.there)
    case hc2 => intro ρ' hρ hR; exact next_ok m a c E (hE.mono hρ) hlE hm ho
    rintro _ _ ⟨na, nc, rfl, rfl⟩
    refine g_freeze (A := Own2 _ _ na nc _) (by repeat' (first | exact Take.here | apply Take.there)) ?_
    intro ρ1 hρ1 hNo
    have hN : NbR ρ1 na m (fun v => tosP E v) := Own2.ro hNo
    clear hNo
    refine g_pure (p_assign rfl) rfl ?_
    refine g_nil ?_
    refine g_qt ?_
    refine g_seq ?_
    refine g_region ?_
    refine g_pure (p_move rfl) rfl ?_
    refine g_eff (e_make (by rfl) (by rfl) rfl rfl (by omega) (by first | omega | (dsimp only; omega)) (by omega)) rfl (fun _ _ => ?_)
    rintro ⟨b20, rfl, rfl⟩
    refine g_pure (p_assign rfl) rfl ?_
    refine g_nil ?_
    refine g_qt ?_
    refine g_seq ?_
    refine g_seq ?_
    refine g_region ?_
    refine g_pure (p_assign rfl) rfl ?_
    refine g_nil ?_
    refine g_qt ?_
    refine g_block ?_
    rw [Int.toNat_natCast]
    refine g_weak (B := Blk b20 (.cells (cellsZ m (fun u => (cntW (E.take 0) [] u : Nat))).toArray 3 (0, 0))) .here (blk_eq (cellsZ_zero m).symm) ?_
    refine g_loop (fun k : Nat => [(0, .int .i64 m), (1, .slice a E.length c), (6, .slice na m nc), (7, .slice (some ⟨b20, 0, none⟩) m m), (8, .int .i64 k)])
      (fun k => [Blk b20 (.cells (cellsZ m (fun u => (cntW (E.take k) [] u : Nat))).toArray 3 (0, 0))]) (fun k => k ≤ E.length) (fun k => E.length - k) 0 (Nat.zero_le _) (by (repeat (first | exact trivial | refine ⟨by rfl, ?_⟩)); done) (by repeat' (first | exact Cover.nil | exact Take.here | apply Cover.cons | apply Take.there)) fun k hk => ?_
    refine g_seq ?_
    refine g_seq ?_
    refine g_region ?_
    refine g_pure (p_move rfl) rfl ?_
    refine g_pure (p_move rfl) rfl ?_
    refine g_pure (p_len (by rfl) rfl) rfl ?_
    refine g_pure (p_lss rfl rfl) rfl ?_
    refine g_nil ?_
    refine g_qt ?_
    refine g_ifd rfl (fun q => ?_) (fun q => ?_)
    · have hk' : k < E.length := by omega
      obtain ⟨be, oe, ce, Te, ze, i1, i2, i3⟩ := hE.at (by omega)
      obtain ⟨-, -, i5⟩ := i3 k hk'
      have hin := (ho _ (List.getElem_mem hk')).2
      have htk := fun u => cntW_take hk' u
      have hle := cntW_le (E.take k) []
      have hlk : (E.take k).length ≤ E.length := by rw [List.length_take]; omega
      obtain ⟨w, hw⟩ : ∃ w : Nat, E[k].2 = w := ⟨E[k].2.toNat, by omega⟩
      rw [hw] at i5 hin
      have hlw := hle w
      have hset := cellsZ_set (n := m) (g := fun u => (cntW (E.take k) [] u : Nat)) (g' := fun u => (cntW (E.take (k + 1)) [] u : Nat)) (u := w) (x := (cntW (E.take k) [] w : Int) + 1) (by
        show ((cntW (E.take (k + 1)) [] w : Nat) : Int) = _; rw [htk, hw, if_pos rfl]; omega) (fun i _ hi => by
        show ((cntW (E.take (k + 1)) [] i : Nat) : Int) = (cntW (E.take k) [] i : Nat); rw [htk, hw, if_neg (by omega), Nat.add_zero])
      refine g_skip ?_
      refine g_qt ?_
      refine g_seq ?_
      refine g_block ?_
      refine g_region ?_
      refine g_pure (p_move rfl) rfl ?_
      refine g_pure (p_move rfl) rfl ?_
      refine g_pure (p_move rfl) rfl ?_
      refine g_pure (p_indexAddr rfl rfl (by omega) (fun _ => i1)) rfl ?_
      refine g_pure (p_fieldAddr rfl) rfl ?_
      refine g_pure (p_load (by rfl) rfl (Has.ro (hρ1 _ _ i2)) i5) rfl ?_
      refine g_pure (p_indexAddr rfl rfl (by omega) (fun _ => rfl)) rfl ?_
      refine g_pure (p_load (by rfl) rfl (Has.own (by repeat' (first | exact Take.here | apply Take.there))) (cellsZ_at (by omega))) rfl ?_
      first | refine g_pure (p_addi rfl rfl (by omega)) rfl ?_ | refine g_pure (p_add rfl rfl) rfl ?_
      refine g_pure (p_indexAddr rfl rfl (by omega) (fun _ => rfl)) rfl ?_
      refine g_eff0 (e_store1 (by rfl) rfl rfl rfl (by repeat' (first | exact Take.here | apply Take.there)) (by rw [cellsZ_len, Int.toNat_natCast]; show 0 + w * 1 < m; omega)) (fun _ _ => ?_)
      rintro rfl
      refine g_nil ?_
      refine g_qb ?_
      refine g_qt ?_
      refine g_region ?_
      refine g_pure (p_move rfl) rfl ?_
      first | refine g_pure (p_addi rfl rfl (by omega)) rfl ?_ | refine g_pure (p_add rfl rfl) rfl ?_
      refine g_pure (p_assign rfl) rfl ?_
      refine g_nil ?_
      refine g_qn ?_
      refine g_weak (B := Blk b20 (.cells (cellsZ m (fun u => (cntW (E.take (k + 1)) [] u : Nat))).toArray 3 (0, 0))) (by repeat' (first | exact Take.here | apply Take.there)) (blk_eq hset) ?_
      exact g_next (k + 1) (by (repeat (first | exact trivial | refine ⟨by rfl, ?_⟩)); done) (by repeat' (first | exact Cover.nil | exact Take.here | apply Cover.cons | apply Take.there)) (by omega) (by omega)
    · have hke : k = E.length := by omega
      rw [hke, List.take_length]
      refine g_weak (B := Blk b20 (.cells (cellsZ m (waitZ E [])).toArray 3 (0, 0))) .here (blk_eq (cellsZ_eq fun i _ => by unfold waitZ; rw [if_neg List.not_mem_nil])) ?_
      refine g_ownnil (e := 3) (size := 1) ?_
      refine g_exit ?_
      refine g_qt_exit ?_
      refine g_qn_exit ?_
      refine g_qb_exit ?_
      refine g_qt ?_
      refine g_seq ?_
      refine g_region ?_
      refine g_pure (p_assign rfl) rfl ?_
      refine g_nil ?_
      refine g_qt ?_
      refine g_seq ?_
      refine g_block ?_
      refine g_loop (fun s : List Int × Option Addr × Nat => [(0, .int .i64 m), (6, .slice na m nc), (7, .slice (some ⟨b20, 0, none⟩) m m), (9, .slice s.2.1 s.1.length s.2.2)])
        (fun s => [Blk b20 (.cells (cellsZ m (waitZ E s.1)).toArray 3 (0, 0)), OwnSl 3 1 s.2.1 s.1.length s.2.2 (s.1.map Z.encI)]) (fun s => OI E m s.1) (fun s => m - s.1.length) ([], none, 0) (OI.start E m) (by (repeat (first | exact trivial | refine ⟨by rfl, ?_⟩)); done) (by repeat' (first | exact Cover.nil | exact Take.here | apply Cover.cons | apply Take.there)) ?_
      rintro ⟨out, oa, oc⟩ hO
      dsimp only at hO ⊢
      have hun := hO.un
      refine g_seq ?_
      refine g_seq ?_
      refine g_region ?_
      refine g_pure (p_move rfl) rfl ?_
      refine g_pure (p_len (by rfl) rfl) rfl ?_
      refine g_pure (p_move rfl) rfl ?_
      refine g_pure (p_lss rfl rfl) rfl ?_
      refine g_nil ?_
      refine g_qt ?_
      refine g_ifd rfl (fun p => ?_) (fun p => ?_)
      · have hlt : out.length < m := by omega
        refine g_skip ?_
        refine g_qt ?_
        refine g_block ?_
        refine g_seq ?_
        refine g_region ?_
        refine g_pure (p_assign rfl) rfl ?_
        refine g_nil ?_
        refine g_qt ?_
        refine g_seq ?_
        refine g_block ?_
        refine g_loop (fun v : Nat => [(0, .int .i64 m), (6, .slice na m nc), (7, .slice (some ⟨b20, 0, none⟩) m m), (9, .slice oa out.length oc), (10, .int .i64 v)])
          (fun v => [Blk b20 (.cells (cellsZ m (waitZ E out)).toArray 3 (0, 0)), OwnSl 3 1 oa out.length oc (out.map Z.encI)]) (fun v => v ≤ m ∧ ∀ u, u < v → ready E m out u = false) (fun v => m - v) 0 ⟨Nat.zero_le _, fun u hu => absurd hu (Nat.not_lt_zero _)⟩ (by (repeat (first | exact trivial | refine ⟨by rfl, ?_⟩)); done) (by repeat' (first | exact Cover.nil | exact Take.here | apply Cover.cons | apply Take.there)) ?_
        rintro v ⟨hv1, hv2⟩
        refine g_seq ?_
        refine g_seq ?_
        refine g_region ?_
        refine g_pure (p_move rfl) rfl ?_
        refine g_pure (p_move rfl) rfl ?_
        refine g_pure (p_lss rfl rfl) rfl ?_
        refine g_pure (p_move rfl) rfl ?_
        refine g_splitd rfl rfl (fun g1 => ?_) (fun g1 => ?_)
        · have hvm : v < m := by omega
          refine g_yes rfl rfl ?_
          refine g_pure (p_move rfl) rfl ?_
          refine g_yes rfl rfl ?_
          refine g_pure (p_move rfl) rfl ?_
          refine g_yes rfl rfl ?_
          refine g_pure (p_indexAddr rfl rfl (by omega) (fun _ => rfl)) rfl ?_
          refine g_yes rfl rfl ?_
          refine g_pure (p_load (by rfl) rfl (Has.own (by repeat' (first | exact Take.here | apply Take.there))) (cellsZ_at hvm)) rfl ?_
          refine g_yes rfl rfl ?_
          refine g_pure (p_neq rfl rfl) rfl ?_
          first | refine g_pure (p_pickt rfl rfl) rfl ?_ | refine g_pure (p_pickf rfl rfl) rfl ?_
          refine g_nil ?_
          refine g_qt ?_
          refine g_ifnd rfl (fun g2 => ?_) (fun g2 => ?_)
          · have hrf : ready E m out v = false := by
              cases e : ready E m out v with
              | false => rfl
              | true => exact absurd ((waitZ_zero ho).2 e) g2
            refine g_skip ?_
            refine g_qt ?_
            refine g_block ?_
            refine g_region ?_
            refine g_pure (p_move rfl) rfl ?_
            first | refine g_pure (p_addi rfl rfl (by omega)) rfl ?_ | refine g_pure (p_add rfl rfl) rfl ?_
            refine g_pure (p_assign rfl) rfl ?_
            refine g_nil ?_
            refine g_qb ?_
            refine g_qn ?_
            exact g_next (v + 1) (by (repeat (first | exact trivial | refine ⟨by rfl, ?_⟩)); done) (by repeat' (first | exact Cover.nil | exact Take.here | apply Cover.cons | apply Take.there)) ⟨by omega, fun u hu => by
              by_cases e : u = v
              · rw [e]; exact hrf
              · exact hv2 u (by omega)⟩ (by omega)
          · have hl : leastP E m out = some v := least_some.2 ⟨hvm, (waitZ_zero ho).1 g2, hv2⟩
            have hvo : (v : Int) ∉ out := (ready_iff.1 ((waitZ_zero ho).1 g2)).1
            have hset0 := cellsZ_set (n := m) (g := waitZ E out) (g' := waitJ E out v 0) (u := v) (x := -1) waitJ_self (fun i _ hi => waitJ_zero hi)
            obtain ⟨bb, oo, cc, TT, zz, ai, ci, r1, r2, r3, r4⟩ := hN.at hvm
            have hll := tosP_len E v
            refine g_exit ?_
            refine g_qt_exit ?_
            refine g_qn_exit ?_
            refine g_qb_exit ?_
            refine g_qt ?_
            refine g_seq ?_
            refine g_seq ?_
            refine g_region ?_
            refine g_pure (p_move rfl) rfl ?_
            refine g_pure (p_move rfl) rfl ?_
            refine g_pure (p_eqlF rfl rfl (by omega)) rfl ?_
            refine g_nil ?_
            refine g_qt ?_
            refine g_iff rfl ?_
            refine g_skip ?_
            refine g_qt ?_
            refine g_seq ?_
            refine g_region ?_
            refine g_pure (p_move rfl) rfl ?_
            refine g_pure (p_move rfl) rfl ?_
            refine g_eff (e_bs (xs := [.tmp 57]) rfl rfl rfl (by rfl) (by rfl) rfl (by rfl)) rfl (fun _ _ => ?_)
            rintro ⟨b58, rfl, rfl⟩
            refine g_eff (e_appendO (by rfl) (by rfl) rfl rfl (by first | (apply Has.own; (repeat' (first | exact Take.here | apply Take.there)); done) | exact Has.ro (by assumption)) (by rfl) (by rfl) (by repeat' (first | exact Take.here | apply Take.there)) (by omega) (by first | omega | (dsimp only; omega) | (simp <;> omega)) (by omega)) rfl (fun _ _ => ?_)
            rintro ⟨a59, c59, rfl, rfl⟩
            refine g_pure (p_assign rfl) rfl ?_
            refine g_nil ?_
            refine g_qt ?_
            refine g_seq ?_
            refine g_region ?_
            refine g_pure (p_move rfl) rfl ?_
            refine g_pure (p_move rfl) rfl ?_
            refine g_pure (p_indexAddr rfl rfl (by omega) (fun _ => rfl)) rfl ?_
            refine g_eff0 (e_store1 (by rfl) rfl rfl rfl (by repeat' (first | exact Take.here | apply Take.there)) (by rw [cellsZ_len, Int.toNat_natCast]; show 0 + v * 1 < m; omega)) (fun _ _ => ?_)
            rintro rfl
            refine g_nil ?_
            refine g_qt ?_
            refine g_seq ?_
            refine g_region ?_
            refine g_pure (p_assign rfl) rfl ?_
            refine g_nil ?_
            refine g_qt ?_
            refine g_block ?_
            refine g_weak (B := Blk b20 (.cells (cellsZ m (waitJ E out v 0)).toArray 3 (0, 0))) (by repeat' (first | exact Take.here | apply Take.there)) (blk_eq hset0) ?_
            rw [show out.map Z.encI ++ [Value.int IntKind.i64 (v : Int)] = (out ++ [(v : Int)]).map Z.encI by rw [List.map_append]; rfl, show out.length + 1 = (out ++ [(v : Int)]).length by rw [List.length_append]; rfl]
            refine g_loop (fun j : Nat => [(0, .int .i64 m), (6, .slice na m nc), (7, .slice (some ⟨b20, 0, none⟩) m m), (9, .slice a59 (out ++ [(v : Int)]).length c59), (10, .int .i64 v), (11, .int .i64 j)])
              (fun j => [Blk b20 (.cells (cellsZ m (waitJ E out v j)).toArray 3 (0, 0)), OwnSl 3 1 a59 (out ++ [(v : Int)]).length c59 ((out ++ [(v : Int)]).map Z.encI)]) (fun j => j ≤ (tosP E v).length) (fun j => (tosP E v).length - j) 0 (Nat.zero_le _) (by (repeat (first | exact trivial | refine ⟨by rfl, ?_⟩)); done) (by repeat' (first | exact Cover.nil | exact Take.here | apply Cover.cons | apply Take.there)) ?_
            rintro j hj
            refine g_seq ?_
            refine g_seq ?_
            refine g_region ?_
            refine g_pure (p_move rfl) rfl ?_
            refine g_pure (p_move rfl) rfl ?_
            refine g_pure (p_move rfl) rfl ?_
            refine g_pure (p_indexAddr rfl rfl (by omega) (fun _ => r1)) rfl ?_
            refine g_pure (p_load (by rfl) rfl (Has.ro r2) r3) rfl ?_
            refine g_pure (p_len (by rfl) rfl) rfl ?_
            refine g_pure (p_lss rfl rfl) rfl ?_
            refine g_nil ?_
            refine g_qt ?_
            refine g_ifd rfl (fun y => ?_) (fun y => ?_)
            · have hj' : j < (tosP E v).length := by omega
              obtain ⟨bl, ol, cl, Tl, zl, l1, l2, l3⟩ := rsl_at r4 (by omega)
              have l3 := l3 j hj'
              have hmem := tosP_mem.1 (List.getElem_mem hj')
              have hin := (ho _ hmem).2
              dsimp only at hin
              obtain ⟨w, hw⟩ : ∃ w : Nat, (tosP E v)[j] = w := ⟨(tosP E v)[j].toNat, by omega⟩
              rw [hw] at l3 hin hmem
              have hfr := hO.fresh hl (w := w) (by omega) hmem
              obtain ⟨s1, s2⟩ := waitJ_step hj' hw hfr
              have hb : -1000001 ≤ waitJ E out v j w ∧ waitJ E out v j w ≤ 1000000 := by
                unfold waitJ
                rw [if_neg hfr]
                have h1 := cntW_le E out w
                have h2 := List.count_le_length (a := (w : Int)) (l := (tosP E v).take j)
                rw [List.length_take] at h2
                omega
              have hset := cellsZ_set (n := m) (g := waitJ E out v j) (g' := waitJ E out v (j + 1)) (u := w) (x := waitJ E out v j w - 1) s1 (fun i _ hi => s2 i hi)
              refine g_skip ?_
              refine g_qt ?_
              refine g_seq ?_
              refine g_block ?_
              refine g_region ?_
              refine g_pure (p_move rfl) rfl ?_
              refine g_pure (p_move rfl) rfl ?_
              refine g_pure (p_move rfl) rfl ?_
              refine g_pure (p_indexAddr rfl rfl (by omega) (fun _ => r1)) rfl ?_
              refine g_pure (p_load (by rfl) rfl (Has.ro r2) r3) rfl ?_
              refine g_pure (p_move rfl) rfl ?_
              refine g_pure (p_indexAddr rfl rfl (by omega) (fun _ => l1)) rfl ?_
              refine g_pure (p_load (by rfl) rfl (Has.ro l2) l3) rfl ?_
              refine g_pure (p_indexAddr rfl rfl (by omega) (fun _ => rfl)) rfl ?_
              refine g_pure (p_load (by rfl) rfl (Has.own (by repeat' (first | exact Take.here | apply Take.there))) (cellsZ_at (by omega))) rfl ?_
              first | refine g_pure (p_subi rfl rfl (by omega)) rfl ?_ | refine g_pure (p_sub rfl rfl) rfl ?_
              refine g_pure (p_indexAddr rfl rfl (by omega) (fun _ => rfl)) rfl ?_
              refine g_eff0 (e_store1 (by rfl) rfl rfl rfl (by repeat' (first | exact Take.here | apply Take.there)) (by rw [cellsZ_len, Int.toNat_natCast]; show 0 + w * 1 < m; omega)) (fun _ _ => ?_)
              rintro rfl
              refine g_nil ?_
              refine g_qb ?_
              refine g_qt ?_
              refine g_region ?_
              refine g_pure (p_move rfl) rfl ?_
              first | refine g_pure (p_addi rfl rfl (by omega)) rfl ?_ | refine g_pure (p_add rfl rfl) rfl ?_
              refine g_pure (p_assign rfl) rfl ?_
              refine g_nil ?_
              refine g_qn ?_
              refine g_weak (B := Blk b20 (.cells (cellsZ m (waitJ E out v (j + 1))).toArray 3 (0, 0))) (by repeat' (first | exact Take.here | apply Take.there)) (blk_eq hset) ?_
              exact g_next (j + 1) (by (repeat (first | exact trivial | refine ⟨by rfl, ?_⟩)); done) (by repeat' (first | exact Cover.nil | exact Take.here | apply Cover.cons | apply Take.there)) (by omega) (by omega)
            · have hje : j = (tosP E v).length := by omega
              rw [hje]
              refine g_weak (B := Blk b20 (.cells (cellsZ m (waitZ E (out ++ [(v : Int)]))).toArray 3 (0, 0))) (by repeat' (first | exact Take.here | apply Take.there)) (blk_eq (cellsZ_eq fun i _ => waitJ_end hvo i)) ?_
              refine g_exit ?_
              refine g_qt_exit ?_
              refine g_qn_exit ?_
              refine g_qb_exit ?_
              refine g_qb ?_
              refine g_qn ?_
              exact g_next (out ++ [(v : Int)], a59, c59) (by (repeat (first | exact trivial | refine ⟨by rfl, ?_⟩)); done) (by repeat' (first | exact Cover.nil | exact Take.here | apply Cover.cons | apply Take.there)) (hO.step hl) (by dsimp only; rw [List.length_append, List.length_singleton]; omega)
        · have hve : v = m := by omega
          have hl : leastP E m out = none := least_none.2 fun u hu => hv2 u (by omega)
          have hor : orderA m E = ([], 13) := by unfold orderA; rw [if_pos hv, Int.toNat_natCast, hO.none hl, if_pos hlt]
          refine g_no rfl rfl rfl rfl ?_
          refine g_no rfl rfl rfl rfl ?_
          refine g_no rfl rfl rfl rfl ?_
          refine g_no rfl rfl rfl rfl ?_
          refine g_no rfl rfl rfl rfl ?_
          first | refine g_pure (p_pickt rfl rfl) rfl ?_ | refine g_pure (p_pickf rfl rfl) rfl ?_
          refine g_nil ?_
          refine g_qt ?_
          refine g_iff rfl ?_
          refine g_exit ?_
          refine g_qt_exit ?_
          refine g_qn_exit ?_
          refine g_qb_exit ?_
          refine g_qt ?_
          refine g_seq ?_
          refine g_seq ?_
          refine g_region ?_
          refine g_pure (p_move rfl) rfl ?_
          refine g_pure (p_move rfl) rfl ?_
          refine g_pure (p_eqlT rfl rfl (by omega)) rfl ?_
          refine g_nil ?_
          refine g_qt ?_
          refine g_ift rfl ?_
          refine g_seq ?_
          refine g_region ?_
          refine g_pure (p_assign rfl) rfl ?_
          refine g_pure (p_assign rfl) rfl ?_
          refine g_nil ?_
          refine g_qt ?_
          refine g_ret ?_
          refine g_qt_ret ?_
          refine g_qb_ret ?_
          refine g_qn_ret ?_
          refine g_qb_ret ?_
          refine g_qt_ret ?_
          rw [hor]
          refine g_ownnil (e := 3) (size := 1) ?_
          refine g_thaw hρ1 ?_
          exact g_post (rs := [.tmp 4, .tmp 5]) rfl (.tmp rfl (.tmp rfl .nil)) ⟨none, 0, rfl, rfl⟩ (by repeat' (first | exact Cover.nil | exact Take.here | apply Cover.cons | apply Take.there))
      · have hle : out.length = m := by omega
        have hor : orderA m E = (out, 0) := by unfold orderA; rw [if_pos hv, Int.toNat_natCast, hO.full hle, if_neg (by omega)]
        refine g_exit ?_
        refine g_qt_exit ?_
        refine g_qn_exit ?_
        refine g_qb_exit ?_
        refine g_qt ?_
        refine g_seq ?_
        refine g_region ?_
        refine g_pure (p_move rfl) rfl ?_
        refine g_pure (p_assign rfl) rfl ?_
        refine g_pure (p_assign rfl) rfl ?_
        refine g_nil ?_
        refine g_qt ?_
        refine g_ret ?_
        rw [hor]
        refine g_thaw hρ1 ?_
        exact g_post (rs := [.tmp 4, .tmp 5]) rfl (.tmp rfl (.tmp rfl .nil)) ⟨oa, oc, rfl, rfl⟩ (by repeat' (first | exact Cover.nil | exact Take.here | apply Cover.cons | apply Take.there))
end Go.Proofs.Ytmefecnjliadaaa
