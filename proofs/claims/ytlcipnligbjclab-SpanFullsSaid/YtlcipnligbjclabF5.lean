/- Chapter 40: intervals: the interval of an operator. Conditions: none. -/
import Derived.Test.YtlcipnligbjclabF4
namespace Go.Z.Val
set_option linter.unusedVariables false
set_option linter.unusedSimpArgs false
set_option linter.unusedSectionVars false
open Go Go.Z
/-- an answer that is an interval and an error -/
def ApP (r : Sp × Int) (v : Value) (H : List Assn) : Prop := ∃ u1 u2 e, v = .tuple #[.agg #[.int .i64 u1, .int .i64 u2], .int .i64 e] ∧ r = ((u1, u2), e) ∧ H = []
theorem zero_err (op : Int) (n : Nat) : (applyF op (List.replicate n 0)).2 = if (groupF op).1 = 0 then 2 else if n ≠ (groupF op).2 then 9 else 0 := by
  unfold applyF
  split
  · rfl
  · rw [List.length_replicate]
    split
    · rfl
    · rw [if_pos]
      rw [List.all_eq_true]
      intro x hx
      rw [List.eq_of_mem_replicate hx]
      unfold argB
      (repeat' split) <;> first | rfl | decide
theorem cut_in {op : Int} {s : Sp} (hg : (groupF op).1 ≠ 0) (h : emptyS (cutS op s) = false) : (cutS op s).1 ≤ (cutS op s).2 ∧ (¬ (op = 11 ∨ op = 12) → R16 (cutS op s)) ∧ ((op = 1 ∨ op = 3 ∨ op = 4 ∨ op = 5) → 0 ≤ (cutS op s).1 ∧ (cutS op s).2 ≤ 1) := by
  have h0 : (cutS op s).1 ≤ (cutS op s).2 := by
    unfold emptyS at h
    have := of_decide_eq_false h; omega
  refine ⟨h0, ?_⟩
  unfold R16
  revert h0
  unfold cutS
  split
  · exact fun _ => ⟨fun hh => absurd (by assumption) hh, fun hh => by omega⟩
  · split
    · unfold meetS ofS
      split
      · intro h0; exact absurd h0 (by decide)
      · intro h0; exact ⟨fun _ => by dsimp only at *; omega, fun _ => by dsimp only at *; omega⟩
    · unfold meetS ofS fullS
      split
      · intro h0; exact absurd h0 (by decide)
      · intro h0; exact ⟨fun _ => by dsimp only at *; omega, fun hh => absurd hh (by assumption)⟩
theorem single_arg {op : Int} {s : Sp} (hg : (groupF op).1 ≠ 0) (h : emptyS (cutS op s) = false) (h1 : (cutS op s).1 = (cutS op s).2) : argB (groupF op).1 (cutS op s).1 = true := by
  obtain ⟨h2, h3, h4⟩ := cut_in hg h
  generalize cutS op s = c at *
  obtain ⟨x, y⟩ := c
  unfold R16 at h3
  dsimp only at *
  subst h1
  rcases op_num (op_cases hg) with e | e | e | e | e | e | e | e | e | e | e | e | e | e | e | e <;> subst e <;> simp [groupF, argB] at * <;> omega
theorem opn_of {op : Int} {s t : Sp} (hg : (groupF op).1 ≠ 0) (h : emptyS (cutS op s) = false) (h2 : emptyS (cutS op t) = false) : Opn op (cutS op s) (cutS op t) := by
  refine ⟨op_cases hg, ?_⟩
  by_cases h3 : op = 11 ∨ op = 12
  · exact .inl h3
  · exact .inr ⟨(cut_in hg h).2.1 h3, (cut_in hg h2).2.1 h3⟩
theorem apply_two {op : Int} {n : Nat} {x y : Int} (hg : (groupF op).1 ≠ 0) (hn : n = (groupF op).2) (hx : argB (groupF op).1 x = true) (hy : argB (groupF op).1 y = true) (h1 : n = 1 → x = y) : applyF op ([x, y].take n) = (opF op x y, 0) := by
  have hc := groupF_cases op
  unfold applyF
  rw [if_neg hg]
  rcases hc with hc | ⟨_, hc | hc⟩
  · exact absurd hc.1 hg
  · rw [hc] at hn ⊢; subst hn; obtain rfl := h1 rfl; simp [hx]
  · rw [hc] at hn ⊢; subst hn; simp [hx, hy]
theorem getD_map {α β : Type} (f : α → β) (l : List α) (i : Nat) (d : α) (e : β) (h : i < l.length) : (l.map f).getD i e = f (l.getD i d) := by
  simp [List.getD_eq_getElem?_getD, List.getElem?_eq_getElem h]
theorem apply_lows {op : Int} {l : List Sp} (hg : (groupF op).1 ≠ 0) (hn : l.length = (groupF op).2) (h : ∀ s ∈ l, argB (groupF op).1 s.1 = true) : applyF op (l.map (·.1)) = (opF op (l.getD 0 (0, 0)).1 (l.getD ((groupF op).2 - 1) (0, 0)).1, 0) := by
  unfold applyF
  rw [if_neg hg, if_neg (by rw [List.length_map]; simpa using hn), if_pos (by rw [List.all_map, List.all_eq_true]; exact h)]
  have hc := groupF_cases op
  have h0 : 0 < l.length := by
    rcases hc with hc | ⟨_, hc⟩
    · exact absurd hc.1 hg
    · omega
  rw [getD_map (·.1) l 0 (0, 0) 0 h0, getD_map (·.1) l _ (0, 0) 0 (by omega)]
theorem cur_has {cur : List Value} {l : List Ce} {m : Nat} (h : cur.take m = l.flatMap encC) : ∀ j v, (l.flatMap encC)[j]? = some v → cur[0 + j]? = some v := by
  intro j v hv
  rw [← h, List.getElem?_take] at hv
  split at hv
  · simpa using hv
  · cases hv
theorem rsl_zeros {ρ : Nat → Obj → Prop} {b n : Nat} {T : TypeId} {fz : Nat × Nat} (h : ρ b (.cells (List.replicate n (.int .i64 0)).toArray T fz)) : RSl ρ 1 (some ⟨b, 0, none⟩) n ((List.replicate n 0).map encI) := by
  have h1 := RSl.of_blk (k := n) (size := 1) h (by simp)
  have e : (List.replicate n (Value.int .i64 0)).take (n * 1) = (List.replicate n 0).map encI := by
    rw [List.take_of_length_le (by simp), List.map_replicate]; rfl
  rwa [e] at h1
theorem apply_bad {op : Int} {args : List Sp} (h : (applyF op (List.replicate args.length 0)).2 ≠ 0) : applyS op args = ((0, 0), (applyF op (List.replicate args.length 0)).2) := by
  rw [zero_err] at h ⊢
  unfold applyS
  split
  · rfl
  · rename_i h1
    rw [if_neg h1] at h
    split
    · rfl
    · rename_i h2
      rw [if_neg h2] at h; exact absurd rfl h
theorem apply_good {op n : Int} {args : List Sp} (h : (applyF op (List.replicate args.length 0)).2 = 0) : (groupF op).1 ≠ 0 ∧ args.length = (groupF op).2 := by
  rw [zero_err] at h
  split at h
  · cases h
  · rename_i h1
    refine ⟨h1, ?_⟩
    split at h
    · cases h
    · rename_i h2; exact Classical.not_not.1 h2
theorem applyS_empty {op : Int} {args : List Sp} (hg : (groupF op).1 ≠ 0) (hn : args.length = (groupF op).2) {i : Nat} (hi : i < args.length) (h : emptyS (cutS op args[i]) = true) : applyS op args = ((1, 0), 0) := by
  unfold applyS
  rw [if_neg hg, if_neg (by simpa using hn), if_pos]
  exact List.any_eq_true.2 ⟨_, List.getElem_mem hi, h⟩
theorem applyS_full {op : Int} {args : List Sp} (hg : (groupF op).1 ≠ 0) (hn : args.length = (groupF op).2) (h : ∀ s ∈ args, emptyS (cutS op s) = false) (h0 : 0 < args.length) : applyS op args = (resS op (cutS op args[0]) (cutS op (args[args.length - 1]'(by omega))), 0) := by
  unfold applyS
  rw [if_neg hg, if_neg (by simpa using hn), if_neg]
  · rw [← hn]
    simp only [List.getD_eq_getElem?_getD]
    rw [List.getElem?_eq_getElem h0, List.getElem?_eq_getElem (by omega : args.length - 1 < args.length)]
    rfl
  · rw [List.any_eq_true]
    rintro ⟨x, hx, h2⟩
    rw [h x hx] at h2; cases h2
theorem rsl_two {ρ : Nat → Obj → Prop} {b n : Nat} {x y : Int} {T : TypeId} {fz : Nat × Nat} (h : ρ b (.cells [.int .i64 x, .int .i64 y].toArray T fz)) (hn : n ≤ 2) : RSl ρ 1 (some ⟨b, 0, none⟩) (n : Int).toNat (([x, y].take n).map encI) := by
  have h1 := RSl.of_blk (k := n) (size := 1) h (by simpa using hn)
  rw [show (n : Int).toNat = n by omega, List.map_take]
  rwa [Nat.mul_one] at h1
theorem fin_single {op : Int} {args : List Sp} {a1 a2 c1 c2 u1 u2 : Int} (hg : (groupF op).1 ≠ 0) (hn : args.length = (groupF op).2) (hfull : applyS op args = (resS op (a1, a2) (c1, c2), 0)) (hsa : (a1, a2).1 = (a1, a2).2 → argB (groupF op).1 (a1, a2).1 = true) (hsc : (c1, c2).1 = (c1, c2).2 → argB (groupF op).1 (c1, c2).1 = true) (hsame : args.length = 1 → (a1, a2) = (c1, c2))
    (h1 : a1 = a2) (h2 : c1 = c2) (hu : ofS (applyF op ([a1, c1].take args.length)).1 (applyF op ([a1, c1].take args.length)).1 = (u1, u2)) : applyS op args = ((u1, u2), (applyF op ([a1, c1].take args.length)).2) := by
  rw [apply_two hg hn (hsa h1) (hsc h2) (fun e => congrArg Prod.fst (hsame e))] at hu ⊢
  rw [hfull]
  unfold resS
  rw [if_pos ⟨h1, h2⟩, ← hu, ofS_of (Int.le_refl _)]
theorem fin_comp {op : Int} {args : List Sp} {a1 a2 c1 c2 u1 u2 : Int} (hfull : applyS op args = (resS op (a1, a2) (c1, c2), 0)) (h : ¬ (a1 = a2 ∧ c1 = c2)) (hu : computeS op (a1, a2) (c1, c2) = (u1, u2)) : applyS op args = ((u1, u2), 0) := by
  rw [hfull]; unfold resS; rw [if_neg h, hu]
end Go.Z.Val
namespace Go.Proofs.Ytlcipnligbjclab
open Go Go.Z Go.Z.Val

theorem applyk_ok {ρ : Nat → Obj → Prop} (op : Int) {aa : Option Addr} {ac k : Nat} {args : List Int} (hk : k = args.length) (ha : RSl ρ 1 aa k (args.map encI)) (hlen : k ≤ 9223372036854775806) :
    Con Try.prog ρ 20 #[.int .i64 op, .slice aa k ac] [] (fun v H => v = .tuple #[.int .i64 (applyF op args).1, .int .i64 (applyF op args).2] ∧ H = []) := by
  subst hk; exact apply_ok op ha hlen
theorem sapply_ok {ρ : Nat → Obj → Prop} (op : Int) {aa : Option Addr} {ac : Nat} {args : List Sp} (ha : RSl ρ 2 aa args.length (args.flatMap encC)) (hlen : args.length ≤ 1000000) :
    Con Try.prog ρ 10 #[.int .i64 op, .slice aa args.length ac] [] (ApP (applyS op args)) := by
  obtain ⟨_, bl, ol, kl, Tl, fl, hl⟩ := ha
  have hlt : ((args.length : Nat) : Int).toNat = args.length := by omega
  refine con_intro Try.func10 Try.call10 rfl Try.ntmps10 rfl (L := [(0, _), (1, _)]) rfl fun w hh => ?_
  refine g_seq ?_
  refine g_region ?_
  refine g_eff (e_alloc (by rfl)) rfl (fun _ _ => ?_)
  rintro ⟨b4, rfl, rfl⟩
  refine g_pure (p_assign rfl) rfl ?_
  refine g_nil ?_
  refine g_qt ?_
  refine g_seq ?_
  refine g_region ?_
  refine g_pure (p_move rfl) rfl ?_
  refine g_pure (p_len (by rfl) rfl) rfl ?_
  refine g_eff (e_make (by rfl) (by rfl) rfl rfl (by omega) (by first | omega | (dsimp only; omega)) (by omega)) rfl (fun _ _ => ?_)
  rintro ⟨b20, rfl, rfl⟩
  refine g_pure (p_assign rfl) rfl ?_
  refine g_nil ?_
  refine g_qt ?_
  refine g_seq ?_
  refine g_seq ?_
  refine g_region ?_
  refine g_pure (p_move rfl) rfl ?_
  refine g_pure (p_move rfl) rfl ?_
  rw [hlt]
  refine g_call (Hin := []) (Hr := ?hr1) (R := ?rr1) rfl rfl rfl ?hin1 ?hc1 ?hk1
  case hin1 => repeat' (first | exact Cover.nil | exact Take.here | apply Cover.cons | apply Take.there)
  case hc1 => intro ρ' hρ hR; exact applyk_ok op (args := List.replicate args.length 0) (by simp) (rsl_zeros hR.1.blk) (by omega)
  rintro _ _ ⟨rfl, rfl⟩
  refine g_pure (p_move rfl) rfl ?_
  refine g_pure (p_extract rfl rfl) rfl ?_
  refine g_pure (p_extract rfl rfl) rfl ?_
  refine g_pure (p_assign rfl) rfl ?_
  refine g_pure (p_assign rfl) rfl ?_
  refine g_nil ?_
  refine g_qt ?_
  refine g_seq ?_
  refine g_region ?_
  refine g_pure (p_move rfl) rfl ?_
  refine g_pure (p_neq rfl rfl) rfl ?_
  refine g_nil ?_
  refine g_qt ?_
  refine g_ifnd rfl (fun q => ?_) (fun q => ?_)
  · refine g_seq ?_
    refine g_region ?_
    refine g_pure (p_build (by rfl) rfl (by rfl)) rfl ?_
    refine g_pure (p_move rfl) rfl ?_
    first | refine g_eff0 (e_storeO rfl rfl (by rfl) (by rfl) (by rfl) (by repeat' (first | exact Take.here | apply Take.there)) (by rfl)) (fun _ _ => ?_) | refine g_eff0 (e_storeN rfl rfl (by rfl) (by rfl) (by rfl) (by repeat' (first | exact Take.here | apply Take.there)) (by simp)) (fun _ _ => ?_)
    rintro rfl
    refine g_pure (p_assign rfl) rfl ?_
    refine g_nil ?_
    refine g_qt ?_
    refine g_ret ?_
    refine g_qt_ret ?_
    exact g_post (rs := [.cell 4 26, .tmp 5]) rfl (Res.cellN (by rfl) rfl (Has.own (by repeat' (first | exact Take.here | apply Take.there))) (by rfl) (.tmp rfl .nil)) ⟨_, _, _, rfl, apply_bad q, rfl⟩ (by repeat' (first | exact Cover.nil | exact Take.here | apply Cover.cons | apply Take.there))
  · obtain ⟨hg, hn⟩ := apply_good (n := 0) (by omega : (applyF op (List.replicate args.length 0)).2 = 0)
    have hn12 : args.length = 1 ∨ args.length = 2 := by
      rcases groupF_cases op with hc | ⟨_, hc⟩
      · exact absurd hc.1 hg
      · omega
    refine g_skip ?_
    refine g_qt ?_
    refine g_seq ?_
    refine g_region ?_
    refine g_pure (p_assign rfl) rfl ?_
    refine g_nil ?_
    refine g_qt ?_
    refine g_seq ?_
    refine g_seq ?_
    refine g_region ?_
    refine g_pure (p_move rfl) rfl ?_
    refine g_pure (p_len (by rfl) rfl) rfl ?_
    refine g_pure (p_move rfl) rfl ?_
    refine g_nil ?_
    refine g_qt ?_
    refine g_block ?_
    refine g_ownnil (e := 48) (size := 2) ?_
    refine g_loop (fun q : Nat × Option Addr × Nat => [(0, .int .i64 op), (1, .slice aa args.length ac), (4, .pointer (some ⟨b4, 0, none⟩)), (5, .int .i64 0), (9, .slice q.2.1 q.1 q.2.2), (31, .slice aa args.length ac), (32, .int .i64 args.length), (33, .int .i64 q.1)])
      (fun q => [OwnSl 48 2 q.2.1 q.1 q.2.2 (((args.take q.1).map (cutS op)).flatMap encC), Blk b4 (.cells [.int .i64 0, .int .i64 0].toArray 26 (0, 0))]) (fun q => q.1 ≤ args.length ∧ ∀ s ∈ args.take q.1, emptyS (cutS op s) = false) (fun q => args.length - q.1) (0, none, 0) ⟨Nat.zero_le _, by simp⟩ (by (repeat (first | exact trivial | refine ⟨by rfl, ?_⟩)); done) (by repeat' (first | exact Cover.nil | exact Take.here | apply Cover.cons | apply Take.there)) ?_
    rintro ⟨i, oa, oc⟩ ⟨hi, hne⟩
    dsimp only at hi hne ⊢
    refine g_seq ?_
    refine g_region ?_
    refine g_pure (p_lss rfl rfl) rfl ?_
    refine g_nil ?_
    refine g_qt ?_
    refine g_seq ?_
    refine g_ifd rfl (fun p => ?_) (fun p => ?_)
    · have hk' : i < args.length := by omega
      obtain ⟨l1, l2, l3⟩ := hl (by omega)
      obtain ⟨x0, _, _⟩ := cell_at l3 hk'
      obtain ⟨⟨s1, s2⟩, es⟩ : ∃ s, args[i] = s := ⟨_, rfl⟩
      rw [es] at x0
      have x0' : sub kl (ol + (i : Int).toNat * 2) 2 = some [.int .i64 s1, .int .i64 s2] := x0
      refine g_skip ?_
      refine g_qt ?_
      refine g_seq ?_
      refine g_block ?_
      refine g_seq ?_
      refine g_region ?_
      refine g_pure (p_indexAddr rfl rfl (by omega) (fun _ => l1)) rfl ?_
      refine g_pure (p_loadN (by rfl) rfl (Has.ro l2) x0') rfl ?_
      refine g_eff (e_alloc (by rfl)) rfl (fun _ _ => ?_)
      rintro ⟨b11, rfl, rfl⟩
      first | refine g_eff0 (e_storeO rfl rfl (by rfl) (by rfl) (by rfl) (by repeat' (first | exact Take.here | apply Take.there)) (by rfl)) (fun _ _ => ?_) | refine g_eff0 (e_storeN rfl rfl (by rfl) (by rfl) (by rfl) (by repeat' (first | exact Take.here | apply Take.there)) (by simp)) (fun _ _ => ?_)
      rintro rfl
      refine g_nil ?_
      refine g_qt ?_
      refine g_seq ?_
      refine g_region ?_
      refine g_pure (p_move rfl) rfl ?_
      first | refine g_pure (p_loadO (by rfl) rfl (by first | (apply Has.own; (repeat' (first | exact Take.here | apply Take.there)); done) | exact Has.ro (by assumption)) (by rfl)) rfl ?_ | refine g_pure (p_loadN (by rfl) rfl (by first | (apply Has.own; (repeat' (first | exact Take.here | apply Take.there)); done) | exact Has.ro (by assumption)) (by first | rfl | assumption)) rfl ?_
      refine g_call (Hin := []) (Hr := ?hr2) (R := ?rr2) rfl rfl rfl ?hin2 ?hc2 ?hk2
      case hin2 => repeat' (first | exact Cover.nil | exact Take.here | apply Cover.cons | apply Take.there)
      case hc2 => intro ρ' hρ hR; exact wcut_ok op _ _
      rintro _ _ ⟨u1, u2, rfl, hu, rfl⟩
      refine g_pure (p_build (by rfl) rfl (by rfl)) rfl ?_
      refine g_eff (e_alloc (by rfl)) rfl (fun _ _ => ?_)
      rintro ⟨b12, rfl, rfl⟩
      first | refine g_eff0 (e_storeO rfl rfl (by rfl) (by rfl) (by rfl) (by repeat' (first | exact Take.here | apply Take.there)) (by rfl)) (fun _ _ => ?_) | refine g_eff0 (e_storeN rfl rfl (by rfl) (by rfl) (by rfl) (by repeat' (first | exact Take.here | apply Take.there)) (by simp)) (fun _ _ => ?_)
      rintro rfl
      refine g_nil ?_
      refine g_qt ?_
      refine g_seq ?_
      refine g_seq ?_
      refine g_region ?_
      refine g_pure (p_fieldAddr rfl) rfl ?_
      first | refine g_pure (p_loadO (by rfl) rfl (by first | (apply Has.own; (repeat' (first | exact Take.here | apply Take.there)); done) | exact Has.ro (by assumption)) (by rfl)) rfl ?_ | refine g_pure (p_loadN (by rfl) rfl (by first | (apply Has.own; (repeat' (first | exact Take.here | apply Take.there)); done) | exact Has.ro (by assumption)) (by first | rfl | assumption)) rfl ?_
      refine g_call (Hin := []) (Hr := ?hr3) (R := ?rr3) rfl rfl rfl ?hin3 ?hc3 ?hk3
      case hin3 => repeat' (first | exact Cover.nil | exact Take.here | apply Cover.cons | apply Take.there)
      case hc3 => intro ρ' hρ hR; exact empty_ok _ _
      rintro _ _ ⟨rfl, rfl⟩
      refine g_nil ?_
      refine g_qt ?_
      rw [← es] at hu
      refine g_ifd rfl (fun h2 => ?_) (fun h2 => ?_)
      · refine g_seq ?_
        refine g_region ?_
        refine g_call (Hin := []) (Hr := ?hr4) (R := ?rr4) rfl rfl rfl ?hin4 ?hc4 ?hk4
        case hin4 => repeat' (first | exact Cover.nil | exact Take.here | apply Cover.cons | apply Take.there)
        case hc4 => intro ρ' hρ hR; exact none_ok
        rintro _ _ ⟨v1, v2, rfl, hv, rfl⟩
        first | refine g_eff0 (e_storeO rfl rfl (by rfl) (by rfl) (by rfl) (by repeat' (first | exact Take.here | apply Take.there)) (by rfl)) (fun _ _ => ?_) | refine g_eff0 (e_storeN rfl rfl (by rfl) (by rfl) (by rfl) (by repeat' (first | exact Take.here | apply Take.there)) (by simp)) (fun _ _ => ?_)
        rintro rfl
        refine g_pure (p_assign rfl) rfl ?_
        refine g_nil ?_
        refine g_qt ?_
        refine g_ret ?_
        refine g_qt_ret ?_
        refine g_qb_ret ?_
        refine g_qt_ret ?_
        refine g_qn_ret ?_
        refine g_qb_ret ?_
        refine g_qt_ret ?_
        cases hv
        exact g_post (rs := [.cell 4 26, .tmp 5]) rfl (Res.cellN (by rfl) rfl (Has.own (by repeat' (first | exact Take.here | apply Take.there))) (by rfl) (.tmp rfl .nil)) ⟨_, _, _, rfl, applyS_empty hg hn hk' (by rw [hu]; exact decide_eq_true h2), rfl⟩ (by repeat' (first | exact Cover.nil | exact Take.here | apply Cover.cons | apply Take.there))
      · have hm2 : ((args.take i).map (cutS op)).flatMap encC ++ [.int .i64 u1, .int .i64 u2] = ((args.take (i + 1)).map (cutS op)).flatMap encC := by rw [map_take hk', hu]; simp [encC]
        refine g_skip ?_
        refine g_qt ?_
        refine g_region ?_
        refine g_pure (p_move rfl) rfl ?_
        first | refine g_pure (p_loadO (by rfl) rfl (by first | (apply Has.own; (repeat' (first | exact Take.here | apply Take.there)); done) | exact Has.ro (by assumption)) (by rfl)) rfl ?_ | refine g_pure (p_loadN (by rfl) rfl (by first | (apply Has.own; (repeat' (first | exact Take.here | apply Take.there)); done) | exact Has.ro (by assumption)) (by first | rfl | assumption)) rfl ?_
        refine g_eff (e_bs (xs := [.tmp 46]) rfl rfl rfl (by rfl) (by rfl) rfl (by rfl)) rfl (fun _ _ => ?_)
        rintro ⟨b47, rfl, rfl⟩
        refine g_eff (e_appendO (by rfl) (by rfl) rfl rfl (by first | (apply Has.own; (repeat' (first | exact Take.here | apply Take.there)); done) | exact Has.ro (by assumption)) (by rfl) (by rfl) (by repeat' (first | exact Take.here | apply Take.there)) (by omega) (by first | omega | (dsimp only; omega) | (simp <;> omega)) (by omega)) rfl (fun _ _ => ?_)
        rintro ⟨a48, c48, rfl, rfl⟩
        refine g_pure (p_assign rfl) rfl ?_
        refine g_nil ?_
        refine g_qb ?_
        refine g_qt ?_
        refine g_region ?_
        first | refine g_pure (p_addi rfl rfl (by omega)) rfl ?_ | refine g_pure (p_add rfl rfl) rfl ?_
        refine g_pure (p_move rfl) rfl ?_
        refine g_nil ?_
        refine g_qn ?_
        refine g_weak (A := OwnSl 48 2 a48 _ c48 (((args.take i).map (cutS op)).flatMap encC ++ [.int .i64 u1, .int .i64 u2])) (B := OwnSl 48 2 a48 (i + 1) c48 (((args.take (i + 1)).map (cutS op)).flatMap encC)) (by repeat' (first | exact Take.here | apply Take.there)) (fun h hh => by rw [← hm2]; exact hh) ?_
        exact g_next (i + 1, a48, c48) (by (repeat (first | exact trivial | refine ⟨by rfl, ?_⟩)); done) (by repeat' (first | exact Cover.nil | exact Take.here | apply Cover.cons | apply Take.there)) ⟨by dsimp only; omega, all_take hk' hne (by rw [hu]; exact decide_eq_false h2)⟩ (by dsimp only; omega)
    · obtain rfl : i = args.length := by omega
      rw [List.take_length] at hne ⊢
      have h0 : 0 < args.length := by omega
      have hl1 : args.length - 1 < args.length := by omega
      obtain ⟨⟨a1, a2⟩, ea⟩ : ∃ s, cutS op args[0] = s := ⟨_, rfl⟩
      obtain ⟨⟨c1, c2⟩, ec⟩ : ∃ s, cutS op args[args.length - 1] = s := ⟨_, rfl⟩
      have na := hne _ (List.getElem_mem h0)
      have nc := hne _ (List.getElem_mem hl1)
      have hfull := applyS_full hg hn hne h0
      have hopn := opn_of hg na nc
      have hsa := single_arg hg na
      have hsc := single_arg hg nc
      have hsame : args.length = 1 → cutS op args[0] = cutS op args[args.length - 1] := fun e => by congr 2; omega
      rw [ea] at hfull hopn hsa hsame
      rw [ec] at hfull hopn hsc hsame
      refine g_exit ?_
      refine g_qt_exit ?_
      refine g_qn_exit ?_
      refine g_qb_exit ?_
      refine g_qt ?_
      refine g_seq ?_
      refine g_own (by repeat' (first | exact Take.here | apply Take.there)) (fun _ e2 _ _ => by omega) (fun g cur e1 hc1 hc2 hc3 hc4 hc5 => ?_)
      subst e1
      have hla : ((args.map (cutS op))).length = args.length := by simp
      obtain ⟨y0, _, _⟩ := cell_at (cur_has hc4) (k := 0) (by omega)
      obtain ⟨z0, _, _⟩ := cell_at (cur_has hc4) (k := args.length - 1) (by omega)
      rw [List.getElem_map, ea] at y0
      rw [List.getElem_map, ec] at z0
      have y0' : sub cur (0 + (0 : Int).toNat * 2) 2 = some [.int .i64 a1, .int .i64 a2] := y0
      have z0' : sub cur (0 + ((args.length : Int) - 1).toNat * 2) 2 = some [.int .i64 c1, .int .i64 c2] := by
        rw [show ((args.length : Int) - 1).toNat = args.length - 1 by omega]; exact z0
      refine g_join (fun y : Nat × Nat => [(0, .int .i64 op), (4, .pointer (some ⟨b4, 0, none⟩)), (5, .int .i64 0), (9, .slice (some ⟨g, 0, none⟩) args.length oc), (13, .pointer (some ⟨y.1, 0, none⟩)), (14, .pointer (some ⟨y.2, 0, none⟩))])
        (fun y => [Blk y.2 (.cells [.int .i64 c1, .int .i64 c2].toArray 48 (0, 0)), Blk y.1 (.cells [.int .i64 a1, .int .i64 a2].toArray 48 (0, 0)), Blk b4 (.cells [.int .i64 0, .int .i64 0].toArray 26 (0, 0))]) (fun _ => True) ?_ ?_
      · refine m_begin0 (.fl 0 0 (.fl 1 0 (.fl 2 1 (.fl 3 0 (.fl 4 0 (.fl 5 0 (.fl 6 0 (.fl 7 0 (.fl 8 1 (.or (.ef 9 (.ef 10 (.ef 11 (.ef 12 .done)))) (.ef 10 (.ef 9 (.ef 11 (.ef 12 .done)))))))))))))) (by kernel_rfl) (by kernel_rfl) ?_
        refine m_float0 rfl (fun _ _ => p_move rfl) rfl ?_
        refine m_float0 rfl (fun _ _ => p_indexAddr rfl rfl (by omega) (by first | exact fun _ => rfl | assumption)) rfl ?_
        refine m_float rfl (p_loadN (by rfl) rfl (Has.own (by repeat' (first | exact Take.here | apply Take.there))) y0') rfl ?_
        refine m_float0 rfl (fun _ _ => p_move rfl) rfl ?_
        refine m_float0 rfl (fun _ _ => p_move rfl) rfl ?_
        refine m_float0 rfl (fun _ _ => p_len (by rfl) rfl) rfl ?_
        first | refine m_float0 rfl (fun _ _ => p_subi rfl rfl (by omega)) rfl ?_ | refine m_float0 rfl (fun _ _ => p_sub rfl rfl) rfl ?_
        refine m_float0 rfl (fun _ _ => p_indexAddr rfl rfl (by omega) (by first | exact fun _ => rfl | assumption)) rfl ?_
        refine m_float rfl (p_loadN (by rfl) rfl (Has.own (by repeat' (first | exact Take.here | apply Take.there))) z0') rfl ?_
        refine m_or ?_ ?_
        · refine m_eff rfl (e_alloc (by rfl)) rfl (fun _ _ => ?_)
          rintro ⟨b13, rfl, rfl⟩
          refine ⟨.some (by repeat' (first | exact Cover.nil | exact Take.here | apply Cover.cons | apply Take.there)), ?_⟩
          refine m_eff rfl (e_alloc (by rfl)) rfl (fun _ _ => ?_)
          rintro ⟨b14, rfl, rfl⟩
          refine ⟨.some (by repeat' (first | exact Cover.nil | exact Take.here | apply Cover.cons | apply Take.there)), ?_⟩
          first | refine m_eff0 rfl (e_storeO rfl rfl (by rfl) (by rfl) (by rfl) (by repeat' (first | exact Take.here | apply Take.there)) (by rfl)) (fun _ _ => ?_) | refine m_eff0 rfl (e_storeN rfl rfl (by rfl) (by rfl) (by rfl) (by repeat' (first | exact Take.here | apply Take.there)) (by simp)) (fun _ _ => ?_)
          rintro rfl
          refine ⟨.some (by repeat' (first | exact Cover.nil | exact Take.here | apply Cover.cons | apply Take.there)), ?_⟩
          first | refine m_eff0 rfl (e_storeO rfl rfl (by rfl) (by rfl) (by rfl) (by repeat' (first | exact Take.here | apply Take.there)) (by rfl)) (fun _ _ => ?_) | refine m_eff0 rfl (e_storeN rfl rfl (by rfl) (by rfl) (by rfl) (by repeat' (first | exact Take.here | apply Take.there)) (by simp)) (fun _ _ => ?_)
          rintro rfl
          refine ⟨.none (by kernel_rfl), ?_⟩
          refine m_nil ?_
          refine g_qn ?_
          exact g_joined (b13, b14) (by (repeat (first | exact trivial | refine ⟨by rfl, ?_⟩)); done) (by repeat' (first | exact Cover.nil | exact Take.here | apply Cover.cons | apply Take.there)) trivial
        refine m_eff rfl (e_alloc (by rfl)) rfl (fun _ _ => ?_)
        rintro ⟨b14, rfl, rfl⟩
        refine ⟨.some (by repeat' (first | exact Cover.nil | exact Take.here | apply Cover.cons | apply Take.there)), ?_⟩
        refine m_eff rfl (e_alloc (by rfl)) rfl (fun _ _ => ?_)
        rintro ⟨b13, rfl, rfl⟩
        refine ⟨.some (by repeat' (first | exact Cover.nil | exact Take.here | apply Cover.cons | apply Take.there)), ?_⟩
        first | refine m_eff0 rfl (e_storeO rfl rfl (by rfl) (by rfl) (by rfl) (by repeat' (first | exact Take.here | apply Take.there)) (by rfl)) (fun _ _ => ?_) | refine m_eff0 rfl (e_storeN rfl rfl (by rfl) (by rfl) (by rfl) (by repeat' (first | exact Take.here | apply Take.there)) (by simp)) (fun _ _ => ?_)
        rintro rfl
        refine ⟨.some (by repeat' (first | exact Cover.nil | exact Take.here | apply Cover.cons | apply Take.there)), ?_⟩
        first | refine m_eff0 rfl (e_storeO rfl rfl (by rfl) (by rfl) (by rfl) (by repeat' (first | exact Take.here | apply Take.there)) (by rfl)) (fun _ _ => ?_) | refine m_eff0 rfl (e_storeN rfl rfl (by rfl) (by rfl) (by rfl) (by repeat' (first | exact Take.here | apply Take.there)) (by simp)) (fun _ _ => ?_)
        rintro rfl
        refine ⟨.none (by kernel_rfl), ?_⟩
        refine m_nil ?_
        refine g_qn ?_
        exact g_joined (b13, b14) (by (repeat (first | exact trivial | refine ⟨by rfl, ?_⟩)); done) (by repeat' (first | exact Cover.nil | exact Take.here | apply Cover.cons | apply Take.there)) trivial
      rintro ⟨b13, b14⟩ -
      dsimp only
      refine g_qt ?_
      refine g_seq ?_
      refine g_seq ?_
      refine g_region ?_
      first | refine g_pure (p_loadO (by rfl) rfl (by first | (apply Has.own; (repeat' (first | exact Take.here | apply Take.there)); done) | exact Has.ro (by assumption)) (by rfl)) rfl ?_ | refine g_pure (p_loadN (by rfl) rfl (by first | (apply Has.own; (repeat' (first | exact Take.here | apply Take.there)); done) | exact Has.ro (by assumption)) (by first | rfl | assumption)) rfl ?_
      refine g_call (Hin := []) (Hr := ?hr5) (R := ?rr5) rfl rfl rfl ?hin5 ?hc5 ?hk5
      case hin5 => repeat' (first | exact Cover.nil | exact Take.here | apply Cover.cons | apply Take.there)
      case hc5 => intro ρ' hρ hR; exact sone_ok _ _
      rintro _ _ ⟨rfl, rfl⟩
      refine g_pure (p_move rfl) rfl ?_
      refine g_splitd rfl rfl (fun h1 => ?_) (fun h1 => ?_)
      · refine g_yes rfl rfl ?_
        first | refine g_pure (p_loadO (by rfl) rfl (by first | (apply Has.own; (repeat' (first | exact Take.here | apply Take.there)); done) | exact Has.ro (by assumption)) (by rfl)) rfl ?_ | refine g_pure (p_loadN (by rfl) rfl (by first | (apply Has.own; (repeat' (first | exact Take.here | apply Take.there)); done) | exact Has.ro (by assumption)) (by first | rfl | assumption)) rfl ?_
        refine g_yes rfl rfl ?_
        refine g_call (Hin := []) (Hr := ?hr6) (R := ?rr6) rfl rfl rfl ?hin6 ?hc6 ?hk6
        case hin6 => repeat' (first | exact Cover.nil | exact Take.here | apply Cover.cons | apply Take.there)
        case hc6 => intro ρ' hρ hR; exact sone_ok _ _
        rintro _ _ ⟨rfl, rfl⟩
        first | refine g_pure (p_pickt rfl rfl) rfl ?_ | refine g_pure (p_pickf rfl rfl) rfl ?_
        refine g_nil ?_
        refine g_qt ?_
        refine g_ifdL rfl (fun h2 => ?_) (fun h2 => ?_)
        · refine g_seq ?_
          refine g_region ?_
          refine g_pure (p_fieldAddr rfl) rfl ?_
          refine g_pure (p_fieldAddr rfl) rfl ?_
          refine g_pure (p_load (by rfl) rfl (by first | (apply Has.own; (repeat' (first | exact Take.here | apply Take.there)); done) | exact Has.ro (by assumption)) (by first | rfl | assumption)) rfl ?_
          refine g_pure (p_fieldAddr rfl) rfl ?_
          refine g_pure (p_fieldAddr rfl) rfl ?_
          refine g_pure (p_load (by rfl) rfl (by first | (apply Has.own; (repeat' (first | exact Take.here | apply Take.there)); done) | exact Has.ro (by assumption)) (by first | rfl | assumption)) rfl ?_
          refine g_eff (e_bs (xs := [.tmp 67, .tmp 70]) rfl rfl rfl (by rfl) (by rfl) rfl (by rfl)) rfl (fun _ _ => ?_)
          rintro ⟨b71, rfl, rfl⟩
          refine g_pure (p_move rfl) rfl ?_
          refine g_pure (p_len (by rfl) rfl) rfl ?_
          refine g_pure (p_sliceh rfl rfl (by omega)) rfl ?_
          refine g_pure (p_assign rfl) rfl ?_
          refine g_nil ?_
          refine g_qt ?_
          refine g_seq ?_
          refine g_region ?_
          refine g_pure (p_move rfl) rfl ?_
          refine g_pure (p_move rfl) rfl ?_
          refine g_call (Hin := []) (Hr := ?hr7) (R := ?rr7) rfl rfl rfl ?hin7 ?hc7 ?hk7
          case hin7 => repeat' (first | exact Cover.nil | exact Take.here | apply Cover.cons | apply Take.there)
          case hc7 => intro ρ' hρ hR; exact applyk_ok op (args := [a1, c1].take args.length) (by simp; omega) (rsl_two hR.1.blk (by omega)) (by omega)
          rintro _ _ ⟨rfl, rfl⟩
          refine g_pure (p_move rfl) rfl ?_
          refine g_pure (p_extract rfl rfl) rfl ?_
          refine g_pure (p_extract rfl rfl) rfl ?_
          refine g_pure (p_assign rfl) rfl ?_
          refine g_pure (p_assign rfl) rfl ?_
          refine g_nil ?_
          refine g_qt ?_
          refine g_seq ?_
          refine g_region ?_
          refine g_pure (p_move rfl) rfl ?_
          refine g_pure (p_move rfl) rfl ?_
          refine g_call (Hin := []) (Hr := ?hr8) (R := ?rr8) rfl rfl rfl ?hin8 ?hc8 ?hk8
          case hin8 => repeat' (first | exact Cover.nil | exact Take.here | apply Cover.cons | apply Take.there)
          case hc8 => intro ρ' hρ hR; exact of_ok _ _
          rintro _ _ ⟨u1, u2, rfl, hu, rfl⟩
          refine g_pure (p_move rfl) rfl ?_
          first | refine g_eff0 (e_storeO rfl rfl (by rfl) (by rfl) (by rfl) (by repeat' (first | exact Take.here | apply Take.there)) (by rfl)) (fun _ _ => ?_) | refine g_eff0 (e_storeN rfl rfl (by rfl) (by rfl) (by rfl) (by repeat' (first | exact Take.here | apply Take.there)) (by simp)) (fun _ _ => ?_)
          rintro rfl
          refine g_pure (p_assign rfl) rfl ?_
          refine g_nil ?_
          refine g_qt ?_
          refine g_ret ?_
          refine g_qt_ret ?_
          exact g_post (rs := [.cell 4 26, .tmp 5]) rfl (Res.cellN (by rfl) rfl (Has.own (by repeat' (first | exact Take.here | apply Take.there))) (by rfl) (.tmp rfl .nil)) ⟨_, _, _, rfl, by first | exact fin_single hg hn hfull hsa hsc hsame (by omega) (by omega) hu | exact fin_comp hfull (by omega) hu, rfl⟩ (by repeat' (first | exact Cover.nil | exact Take.here | apply Cover.cons | apply Take.there))
        · refine g_skip ?_
          refine g_qt ?_
          refine g_seq ?_
          refine g_region ?_
          refine g_pure (p_move rfl) rfl ?_
          first | refine g_pure (p_loadO (by rfl) rfl (by first | (apply Has.own; (repeat' (first | exact Take.here | apply Take.there)); done) | exact Has.ro (by assumption)) (by rfl)) rfl ?_ | refine g_pure (p_loadN (by rfl) rfl (by first | (apply Has.own; (repeat' (first | exact Take.here | apply Take.there)); done) | exact Has.ro (by assumption)) (by first | rfl | assumption)) rfl ?_
          first | refine g_pure (p_loadO (by rfl) rfl (by first | (apply Has.own; (repeat' (first | exact Take.here | apply Take.there)); done) | exact Has.ro (by assumption)) (by rfl)) rfl ?_ | refine g_pure (p_loadN (by rfl) rfl (by first | (apply Has.own; (repeat' (first | exact Take.here | apply Take.there)); done) | exact Has.ro (by assumption)) (by first | rfl | assumption)) rfl ?_
          refine g_call (Hin := []) (Hr := ?hr9) (R := ?rr9) rfl rfl rfl ?hin9 ?hc9 ?hk9
          case hin9 => repeat' (first | exact Cover.nil | exact Take.here | apply Cover.cons | apply Take.there)
          case hc9 => intro ρ' hρ hR; exact scompute_ok hopn
          rintro _ _ ⟨u1, u2, rfl, hu, rfl⟩
          first | refine g_eff0 (e_storeO rfl rfl (by rfl) (by rfl) (by rfl) (by repeat' (first | exact Take.here | apply Take.there)) (by rfl)) (fun _ _ => ?_) | refine g_eff0 (e_storeN rfl rfl (by rfl) (by rfl) (by rfl) (by repeat' (first | exact Take.here | apply Take.there)) (by simp)) (fun _ _ => ?_)
          rintro rfl
          refine g_pure (p_assign rfl) rfl ?_
          refine g_nil ?_
          refine g_qt ?_
          refine g_ret ?_
          exact g_post (rs := [.cell 4 26, .tmp 5]) rfl (Res.cellN (by rfl) rfl (Has.own (by repeat' (first | exact Take.here | apply Take.there))) (by rfl) (.tmp rfl .nil)) ⟨_, _, _, rfl, by first | exact fin_single hg hn hfull hsa hsc hsame (by omega) (by omega) hu | exact fin_comp hfull (by omega) hu, rfl⟩ (by repeat' (first | exact Cover.nil | exact Take.here | apply Cover.cons | apply Take.there))
      · refine g_no rfl rfl rfl rfl ?_
        refine g_no rfl rfl rfl rfl ?_
        first | refine g_pure (p_pickt rfl rfl) rfl ?_ | refine g_pure (p_pickf rfl rfl) rfl ?_
        refine g_nil ?_
        refine g_qt ?_
        refine g_iff rfl ?_
        refine g_skip ?_
        refine g_qt ?_
        refine g_seq ?_
        refine g_region ?_
        refine g_pure (p_move rfl) rfl ?_
        first | refine g_pure (p_loadO (by rfl) rfl (by first | (apply Has.own; (repeat' (first | exact Take.here | apply Take.there)); done) | exact Has.ro (by assumption)) (by rfl)) rfl ?_ | refine g_pure (p_loadN (by rfl) rfl (by first | (apply Has.own; (repeat' (first | exact Take.here | apply Take.there)); done) | exact Has.ro (by assumption)) (by first | rfl | assumption)) rfl ?_
        first | refine g_pure (p_loadO (by rfl) rfl (by first | (apply Has.own; (repeat' (first | exact Take.here | apply Take.there)); done) | exact Has.ro (by assumption)) (by rfl)) rfl ?_ | refine g_pure (p_loadN (by rfl) rfl (by first | (apply Has.own; (repeat' (first | exact Take.here | apply Take.there)); done) | exact Has.ro (by assumption)) (by first | rfl | assumption)) rfl ?_
        refine g_call (Hin := []) (Hr := ?hr10) (R := ?rr10) rfl rfl rfl ?hin10 ?hc10 ?hk10
        case hin10 => repeat' (first | exact Cover.nil | exact Take.here | apply Cover.cons | apply Take.there)
        case hc10 => intro ρ' hρ hR; exact scompute_ok hopn
        rintro _ _ ⟨u1, u2, rfl, hu, rfl⟩
        first | refine g_eff0 (e_storeO rfl rfl (by rfl) (by rfl) (by rfl) (by repeat' (first | exact Take.here | apply Take.there)) (by rfl)) (fun _ _ => ?_) | refine g_eff0 (e_storeN rfl rfl (by rfl) (by rfl) (by rfl) (by repeat' (first | exact Take.here | apply Take.there)) (by simp)) (fun _ _ => ?_)
        rintro rfl
        refine g_pure (p_assign rfl) rfl ?_
        refine g_nil ?_
        refine g_qt ?_
        refine g_ret ?_
        exact g_post (rs := [.cell 4 26, .tmp 5]) rfl (Res.cellN (by rfl) rfl (Has.own (by repeat' (first | exact Take.here | apply Take.there))) (by rfl) (.tmp rfl .nil)) ⟨_, _, _, rfl, by first | exact fin_single hg hn hfull hsa hsc hsame (by omega) (by omega) hu | exact fin_comp hfull (by omega) hu, rfl⟩ (by repeat' (first | exact Cover.nil | exact Take.here | apply Cover.cons | apply Take.there))
end Go.Proofs.Ytlcipnligbjclab
