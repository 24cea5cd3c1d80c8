/- Chapter 4: the order of the edges, and repeated edges, have no effect. Conditions: none. -/
import Derived.Test.YtmefecnjliadaaaNs
namespace Go.Z.Gr
set_option maxRecDepth 8000
set_option linter.unusedVariables false
set_option linter.unusedSimpArgs false
set_option linter.unusedSectionVars false
open Go Go.Z Go.Z.Gra
theorem validP_eq {E E' : Ed} (h : ∀ e, e ∈ E ↔ e ∈ E') (n : Int) (ms : List Int) : validP n E ms = validP n E' ms := by
  unfold validP
  rw [show (E.all fun e => inV n e.1 && inV n e.2) = E'.all fun e => inV n e.1 && inV n e.2 from by
    rw [Bool.eq_iff_iff, List.all_eq_true, List.all_eq_true]
    exact ⟨fun g x hx => g x ((h x).2 hx), fun g x hx => g x ((h x).1 hx)⟩]
theorem orderA_eq {E E' : Ed} (h : ∀ e, e ∈ E ↔ e ∈ E') (n : Int) : orderA n E = orderA n E' := by
  unfold orderA
  rw [validP_eq h, order_eq h]
theorem cycleA_eq {E E' : Ed} (h : ∀ e, e ∈ E ↔ e ∈ E') (n : Int) : cycleA n E = cycleA n E' := by
  unfold cycleA
  rw [validP_eq h, cycle_eq h]
theorem partsA_eq {E E' : Ed} (h : ∀ e, e ∈ E ↔ e ∈ E') (n : Int) : partsA n E = partsA n E' := by
  unfold partsA
  rw [validP_eq h, partsP_eq h]
theorem one1_flatE : ∀ E : Ed, one1 (flatE E) = true
  | [] => rfl
  | e :: E => by
    have e1 : flatE (e :: E) = encI e.1 :: encI e.2 :: flatE E := rfl
    have ih := one1_flatE E
    rw [e1]
    unfold one1 at ih ⊢
    rw [List.all_cons, List.all_cons, ih]; rfl
theorem parts_rows {n : Int} {E : Ed} : (partsA n E).1.length ≤ 4096 ∧ ∀ l ∈ (partsA n E).1, l.length ≤ 4096 := by
  unfold partsA
  by_cases hv : validP n E [] = true
  · rw [if_pos hv]
    have hn : n.toNat ≤ 4096 := by
      unfold validP at hv
      rw [Bool.and_eq_true, Bool.and_eq_true] at hv
      have := of_decide_eq_true hv.1.1
      omega
    have hf : ∀ p : Nat → Bool, ((List.range n.toNat).filter p).length ≤ 4096 := fun p => by
      have := List.length_filter_le p (List.range n.toNat)
      rw [List.length_range] at this
      omega
    dsimp only
    unfold partsP partsC
    refine ⟨by rw [List.length_map, List.length_map]; exact hf _, fun l hl => ?_⟩
    rw [List.map_map, List.mem_map] at hl
    obtain ⟨v, -, rfl⟩ := hl
    show (List.map _ _).length ≤ _
    rw [List.length_map]; exact hf _
  · rw [if_neg hv]; exact ⟨by decide, fun l hl => absurd hl List.not_mem_nil⟩
theorem orderA_len (n : Int) (E : Ed) : (orderA n E).1.length ≤ 4096 := by
  unfold orderA
  by_cases hv : validP n E [] = true
  · rw [if_pos hv]
    have hn : n.toNat ≤ 4096 := by
      unfold validP at hv
      rw [Bool.and_eq_true, Bool.and_eq_true] at hv
      have := of_decide_eq_true hv.1.1
      omega
    have hl : ∀ k out, (goP E n.toNat k out).length ≤ k + out.length := by
      intro k
      induction k with
      | zero => intro out; unfold goP; omega
      | succ k ih =>
        intro out
        unfold goP
        split
        · omega
        · have := ih (out ++ [((‹Nat› : Nat) : Int)])
          rw [List.length_append, List.length_singleton] at this
          omega
    have := hl n.toNat []
    split
    · exact Nat.zero_le _
    · show (orderP E n.toNat).length ≤ 4096
      unfold orderP
      have h0 : ([] : List Int).length = 0 := rfl
      omega
  · rw [if_neg hv]; exact Nat.zero_le _
theorem cycleA_len (n : Int) (E : Ed) : (cycleA n E).1.length ≤ 4097 := by
  unfold cycleA
  by_cases hv : validP n E [] = true
  · rw [if_pos hv]
    have hn : n.toNat ≤ 4096 := by
      unfold validP at hv
      rw [Bool.and_eq_true, Bool.and_eq_true] at hv
      have := of_decide_eq_true hv.1.1
      omega
    have hl : ∀ (l : List Nat) (b : List Int), b.length ≤ n.toNat + 1 → (l.foldl (stepC E n.toNat) b).length ≤ n.toNat + 1 := by
      intro l
      induction l with
      | nil => intro b h; exact h
      | cons v l ih =>
        intro b h
        refine ih _ ?_
        unfold stepC
        have hM : ∃ M : Int, (if b = [] then (n.toNat : Int) + 1 else b.length) = M ∧ 1 ≤ M ∧ M ≤ n.toNat + 1 := by
          refine ⟨_, rfl, ?_⟩
          by_cases hb : b = []
          · rw [if_pos hb]; omega
          · rw [if_neg hb]
            have := List.length_pos_iff.2 hb
            omega
        obtain ⟨M, e, h1, h2⟩ := hM
        rw [e]
        have h3 := aroundM_len (nbP E) (distP E n.toNat v) v h1
        dsimp only
        split
        · exact h
        · omega
    have := hl (List.range n.toNat) [] (Nat.zero_le _)
    split
    · exact Nat.zero_le _
    · show (cycleP E n.toNat).length ≤ 4097
      unfold cycleP
      omega
  · rw [if_neg hv]; exact Nat.zero_le _
end Go.Z.Gr
namespace Go.Proofs.Ytmefecnjliadaaa
set_option maxRecDepth 8000
set_option linter.unusedVariables false
set_option linter.unusedSimpArgs false
set_option linter.unusedSectionVars false
open Go Go.Z Go.Z.Gr Go.Z.Gra
/-- reading edges -/
theorem rd_edges {H : Type} {enc : TypeId × Value → H} {W : World} {cs : List Value} (h : Rdx enc Try.prog W 22 cs) :
    ∃ (a : Option Addr) (cap : Nat) (l : Ed), cs = [.slice a l.length cap] ∧ l.length ≤ cap ∧ cap ≤ maxLen ∧ (∀ x ∈ l, True) ∧ RSl (Old W) 2 a l.length (l.flatMap fun e => [Z.encI e.1, Z.encI e.2]) := by
  refine rd_list (fun x : Int × Int => True) (fun e => [Z.encI e.1, Z.encI e.2]) Try.underlying22 (size := 2) (by kernel_rfl) (by decide) (fun c _ hc => ?_) h
  obtain ⟨hl, hf⟩ := rd_struct Try.underlying40 hc
  have h0 := hf 0 _ rfl
  have h1 := hf 1 _ rfl
  have hl2 : c.length = 2 := hl
  match c, hl2 with
  | [u, v], _ =>
    have h0' : Rdx enc Try.prog W 3 [u] := h0
    have h1' : Rdx enc Try.prog W 3 [v] := h1
    obtain ⟨x, e, wx⟩ := rd_int Try.underlying3 h0'
    cases e
    obtain ⟨y, e, wy⟩ := rd_int Try.underlying3 h1'
    cases e
    exact ⟨(x, y), rfl, trivial⟩
/-- lists that are equal -/
theorem sameT_ok {ρ : Nat → Obj → Prop} (a b : Option Addr) (ac bc : Nat) (la lb : List Int) (ha : RSl ρ 1 a la.length (la.map Z.encI)) (hb : RSl ρ 1 b lb.length (lb.map Z.encI)) (hl : la.length ≤ 9223372036854775807) (h : la = lb) :
    Con Try.prog ρ 12 #[.slice a la.length ac, .slice b lb.length bc] [] (fun v H => v = .bool true ∧ H = []) := by
  have := same_ok a b ac bc la lb ha hb hl
  rwa [decide_eq_true h] at this
theorem listsT_ok {ρ : Nat → Obj → Prop} (a b : Option Addr) (ac bc : Nat) (la lb : List (List Int)) (ha : LsR ρ a la) (hb : LsR ρ b lb) (hl : la.length ≤ 9223372036854775807) (hs : ∀ l ∈ la, l.length ≤ 9223372036854775807) (h : la = lb) :
    Con Try.prog ρ 20 #[.slice a la.length ac, .slice b lb.length bc] [] (fun v H => v = .bool true ∧ H = []) := by
  have := lists_ok a b ac bc la lb ha hb hl hs
  rwa [decide_eq_true h] at this
theorem turned_ok {ρ : Nat → Obj → Prop} (n : Int) (a : Option Addr) (c : Nat) (E : Ed) (hE : RSl ρ 2 a E.length (E.flatMap fun e => [Z.encI e.1, Z.encI e.2])) (hc : E.length ≤ c) (hm : c ≤ maxLen) :
    Con Try.prog ρ 8 #[.int .i64 n, .slice a E.length c] [] (fun v _ => v = .bool true) := by
  have hE : EdR ρ a E := hE
  have hm' : c ≤ 9223372036854775807 := hm
  clear hm
  refine con_intro Try.func8 Try.call8 rfl Try.ntmps8 rfl (L := [(0, _), (1, _)]) rfl fun w hh => ?_
  refine g_seq ?_
  refine g_region ?_
  refine g_pure (p_assign rfl) rfl ?_
  refine g_nil ?_
  refine g_qt ?_
  refine g_seq ?_
  refine g_seq ?_
  refine g_region ?_
  refine g_pure (p_move rfl) rfl ?_
  refine g_pure (p_gtr rfl rfl) rfl ?_
  refine g_pure (p_move rfl) rfl ?_
  refine g_splitd rfl rfl (fun h1 => ?_) (fun h1 => ?_)
  · refine g_no rfl rfl rfl rfl ?_
    refine g_no rfl rfl rfl rfl ?_
    refine g_no rfl rfl rfl rfl ?_
    first | refine g_pure (p_pickt rfl rfl) rfl ?_ | refine g_pure (p_pickf rfl rfl) rfl ?_
    refine g_nil ?_
    refine g_qt ?_
    refine g_ift rfl ?_
    refine g_seq ?_
    refine g_region ?_
    refine g_call (Hin := []) (Hr := ?hr1) (R := ?rr1) rfl rfl rfl ?hin1 ?hc1 ?hk1
    case hin1 => repeat' (first | exact Cover.nil | exact Take.here | apply Cover.cons | apply Take.there)
    case hc1 => intro ρ' hρ hR; exact awake_ok
    rintro _ _ ⟨rfl, rfl⟩
    refine g_pure (p_assign rfl) rfl ?_
    refine g_nil ?_
    refine g_qt ?_
    refine g_ret ?_
    refine g_qt_ret ?_
    exact g_post (rs := [.tmp 4]) rfl (.tmp rfl .nil) rfl .nil
  · refine g_yes rfl rfl ?_
    refine g_pure (p_move rfl) rfl ?_
    refine g_yes rfl rfl ?_
    refine g_pure (p_len (by rfl) rfl) rfl ?_
    refine g_yes rfl rfl ?_
    refine g_pure (p_gtr rfl rfl) rfl ?_
    first | refine g_pure (p_pickt rfl rfl) rfl ?_ | refine g_pure (p_pickf rfl rfl) rfl ?_
    refine g_nil ?_
    refine g_qt ?_
    refine g_ifd rfl (fun h2 => ?_) (fun h2 => ?_)
    · refine g_seq ?_
      refine g_region ?_
      refine g_call (Hin := []) (Hr := ?hr2) (R := ?rr2) rfl rfl rfl ?hin2 ?hc2 ?hk2
      case hin2 => repeat' (first | exact Cover.nil | exact Take.here | apply Cover.cons | apply Take.there)
      case hc2 => intro ρ' hρ hR; exact awake_ok
      rintro _ _ ⟨rfl, rfl⟩
      refine g_pure (p_assign rfl) rfl ?_
      refine g_nil ?_
      refine g_qt ?_
      refine g_ret ?_
      refine g_qt_ret ?_
      exact g_post (rs := [.tmp 4]) rfl (.tmp rfl .nil) rfl .nil
    · have hl2 : E.length ≤ 200 := by omega
      refine g_skip ?_
      refine g_qt ?_
      refine g_seq ?_
      refine g_region ?_
      refine g_pure (p_assign rfl) rfl ?_
      refine g_nil ?_
      refine g_qt ?_
      refine g_seq ?_
      refine g_seq ?_
      refine g_region ?_
      refine g_pure (p_move rfl) rfl ?_
      refine g_pure (p_len (by rfl) rfl) rfl ?_
      first | refine g_pure (p_subi rfl rfl (by omega)) rfl ?_ | refine g_pure (p_sub rfl rfl) rfl ?_
      refine g_pure (p_assign rfl) rfl ?_
      refine g_nil ?_
      refine g_qt ?_
      refine g_block ?_
      refine g_ownnil (e := 40) (size := 2) ?_
      refine g_loop (fun s : Nat × Option Addr × Nat => [(0, .int .i64 n), (1, .slice a E.length c), (4, .bool false), (5, .slice s.2.1 (E.reverse.take s.1).length s.2.2), (6, .int .i64 ((E.length : Int) - 1 - s.1))])
        (fun s => [OwnSl 40 2 s.2.1 (E.reverse.take s.1).length s.2.2 (flatE (E.reverse.take s.1))]) (fun s => s.1 ≤ E.length) (fun s => E.length - s.1) (0, none, 0) (Nat.zero_le _) (by rw [show ((0, none, 0) : Nat × Option Addr × Nat).1 = 0 from rfl, Int.natCast_zero, Int.sub_zero]; exact (by (repeat (first | exact trivial | refine ⟨by rfl, ?_⟩)); done)) (by repeat' (first | exact Cover.nil | exact Take.here | apply Cover.cons | apply Take.there)) ?_
      rintro ⟨k, ta, tc⟩ hk
      dsimp only at hk ⊢
      have hrl : E.reverse.length = E.length := List.length_reverse
      have htl : (E.reverse.take k).length = k := by rw [List.length_take]; omega
      refine g_seq ?_
      refine g_seq ?_
      refine g_region ?_
      refine g_pure (p_move rfl) rfl ?_
      refine g_pure (p_geq rfl rfl) rfl ?_
      refine g_nil ?_
      refine g_qt ?_
      refine g_ifd rfl (fun q => ?_) (fun q => ?_)
      · have hk' : k < E.length := by omega
        obtain ⟨j, hj⟩ : ∃ j : Nat, (E.length : Int) - 1 - k = j := ⟨((E.length : Int) - 1 - k).toNat, by omega⟩
        have hj' : j < E.length := by omega
        obtain ⟨be, oe, ce, Te, ze, i1, i2, i3⟩ := hE.at (by omega)
        obtain ⟨i4, -, -⟩ := i3 j hj'
        have htk := take_snoc (l := E.reverse) (k := k) (by omega)
        rw [List.getElem_reverse] at htk
        have hjj : E.length - 1 - k = j := by omega
        simp only [hjj] at htk
        rw [hj]
        have hfl : flatE (E.reverse.take k) ++ [Value.int IntKind.i64 E[j].1, Value.int IntKind.i64 E[j].2] = flatE (E.reverse.take (k + 1)) := by rw [htk, flatE_append]; rfl
        have hlk : (E.reverse.take k).length + 1 = (E.reverse.take (k + 1)).length := by rw [htk, List.length_append]; rfl
        refine g_skip ?_
        refine g_qt ?_
        refine g_seq ?_
        refine g_block ?_
        refine g_region ?_
        refine g_pure (p_move rfl) rfl ?_
        refine g_pure (p_move rfl) rfl ?_
        refine g_pure (p_move rfl) rfl ?_
        refine g_pure (p_indexAddr rfl rfl (by omega) (fun _ => i1)) rfl ?_
        refine g_pure (p_loadN (by rfl) rfl (Has.ro i2) i4) rfl ?_
        refine g_eff (e_bs (xs := [.tmp 38]) rfl rfl rfl (by rfl) (by rfl) rfl (by rfl)) rfl (fun _ _ => ?_)
        rintro ⟨b39, rfl, rfl⟩
        refine g_eff (e_appendO (by rfl) (by rfl) rfl rfl (by first | (apply Has.own; (repeat' (first | exact Take.here | apply Take.there)); done) | exact Has.ro (by assumption)) (by rfl) (by rfl) (by repeat' (first | exact Take.here | apply Take.there)) (by omega) (by first | omega | (dsimp only; omega) | (simp <;> omega)) (by omega)) rfl (fun _ _ => ?_)
        rintro ⟨a40, c40, rfl, rfl⟩
        refine g_pure (p_assign rfl) rfl ?_
        refine g_nil ?_
        refine g_qb ?_
        refine g_qt ?_
        refine g_region ?_
        refine g_pure (p_move rfl) rfl ?_
        first | refine g_pure (p_subi rfl rfl (by omega)) rfl ?_ | refine g_pure (p_sub rfl rfl) rfl ?_
        refine g_pure (p_assign rfl) rfl ?_
        refine g_nil ?_
        refine g_qn ?_
        rw [hfl, hlk, show (j : Int) - 1 = (E.length : Int) - 1 - ((k + 1 : Nat) : Int) by omega]
        exact g_next (k + 1, a40, c40) (by (repeat (first | exact trivial | refine ⟨by rfl, ?_⟩)); done) (by repeat' (first | exact Cover.nil | exact Take.here | apply Cover.cons | apply Take.there)) (by dsimp only; omega) (by dsimp only; omega)
      · have hke : k = E.length := by omega
        have hT : ∀ e, e ∈ E ↔ e ∈ E.reverse ++ E := fun e => by rw [List.mem_append, List.mem_reverse]; exact ⟨.inl, fun h => h.elim id id⟩
        have hTl : E.length + E.length = (E.reverse ++ E).length := by rw [List.length_append, hrl]
        rw [hke, List.take_of_length_le (by omega), hrl]
        refine g_exit ?_
        refine g_qt_exit ?_
        refine g_qn_exit ?_
        refine g_qb_exit ?_
        refine g_qt ?_
        refine g_seq ?_
        refine g_region ?_
        refine g_pure (p_move rfl) rfl ?_
        refine g_pure (p_move rfl) rfl ?_
        refine g_eff (e_appendS (news := flatE E) (by rfl) (by rfl) rfl rfl (slAt_ro (M := ⟨ρ, w, hh⟩) (size := 2) hE) (one1_flatE E) (by repeat' (first | exact Take.here | apply Take.there)) (by show (E.length + E.length) * 16 ≤ _; omega) (by omega)) rfl (fun _ _ => ?_)
        rintro ⟨sa, sc, rfl, rfl⟩
        refine g_pure (p_assign rfl) rfl ?_
        refine g_nil ?_
        refine g_qt ?_
        refine g_seq ?_
        refine g_region ?_
        refine g_pure (p_move rfl) rfl ?_
        refine g_pure (p_move rfl) rfl ?_
        rw [← flatE_append, hTl]
        refine g_freeze (A := OwnSl 40 2 sa _ sc _) .here ?_
        intro ρ1 hρ1 hTo
        have hER : EdR ρ1 sa (E.reverse ++ E) := RSl.of_own hTo
        clear hTo
        have o1 := orderA_eq hT n
        have o2 := cycleA_eq hT n
        have o3 := partsA_eq hT n
        have hlT : (E.reverse ++ E).length ≤ 1000000 := by omega
        generalize E.reverse ++ E = F at *
        have k1 := orderA_len n E
        have k2 := cycleA_len n E
        obtain ⟨k3, k4⟩ := parts_rows (n := n) (E := E)
        refine g_call (Hin := []) (Hr := ?hr3) (R := ?rr3) rfl rfl rfl ?hin3 ?hc3 ?hk3
        case hin3 => repeat' (first | exact Cover.nil | exact Take.here | apply Cover.cons | apply Take.there)
        case hc3 => intro ρ' hρ hR; exact order_ok n a c E (hE.mono fun b o h => hρ _ _ (hρ1 _ _ h)) (by omega)
        rintro _ _ ⟨x1, y1, rfl, rfl⟩
        refine g_pure (p_move rfl) rfl ?_
        refine g_pure (p_extract rfl rfl) rfl ?_
        refine g_pure (p_extract rfl rfl) rfl ?_
        refine g_pure (p_assign rfl) rfl ?_
        refine g_pure (p_assign rfl) rfl ?_
        refine g_nil ?_
        refine g_qt ?_
        refine g_seq ?_
        refine g_region ?_
        refine g_pure (p_move rfl) rfl ?_
        refine g_pure (p_move rfl) rfl ?_
        refine g_call (Hin := []) (Hr := ?hr4) (R := ?rr4) rfl rfl rfl ?hin4 ?hc4 ?hk4
        case hin4 => repeat' (first | exact Cover.nil | exact Take.here | apply Cover.cons | apply Take.there)
        case hc4 => intro ρ' hρ hR; exact order_ok n sa sc F (hER.mono hρ) hlT
        rintro _ _ ⟨x2, y2, rfl, rfl⟩
        rw [← o1]
        refine g_pure (p_move rfl) rfl ?_
        refine g_pure (p_extract rfl rfl) rfl ?_
        refine g_pure (p_extract rfl rfl) rfl ?_
        refine g_pure (p_assign rfl) rfl ?_
        refine g_pure (p_assign rfl) rfl ?_
        refine g_nil ?_
        refine g_qt ?_
        refine g_seq ?_
        refine g_region ?_
        refine g_pure (p_move rfl) rfl ?_
        refine g_pure (p_move rfl) rfl ?_
        refine g_call (Hin := []) (Hr := ?hr5) (R := ?rr5) rfl rfl rfl ?hin5 ?hc5 ?hk5
        case hin5 => repeat' (first | exact Cover.nil | exact Take.here | apply Cover.cons | apply Take.there)
        case hc5 => intro ρ' hρ hR; exact cycle_ok n a c E (hE.mono fun b o h => hρ _ _ (hρ1 _ _ h)) (by omega)
        rintro _ _ ⟨x3, y3, rfl, rfl⟩
        refine g_pure (p_move rfl) rfl ?_
        refine g_pure (p_extract rfl rfl) rfl ?_
        refine g_pure (p_extract rfl rfl) rfl ?_
        refine g_pure (p_assign rfl) rfl ?_
        refine g_pure (p_assign rfl) rfl ?_
        refine g_nil ?_
        refine g_qt ?_
        refine g_seq ?_
        refine g_region ?_
        refine g_pure (p_move rfl) rfl ?_
        refine g_pure (p_move rfl) rfl ?_
        refine g_call (Hin := []) (Hr := ?hr6) (R := ?rr6) rfl rfl rfl ?hin6 ?hc6 ?hk6
        case hin6 => repeat' (first | exact Cover.nil | exact Take.here | apply Cover.cons | apply Take.there)
        case hc6 => intro ρ' hρ hR; exact cycle_ok n sa sc F (hER.mono hρ) hlT
        rintro _ _ ⟨x4, y4, rfl, rfl⟩
        rw [← o2]
        refine g_pure (p_move rfl) rfl ?_
        refine g_pure (p_extract rfl rfl) rfl ?_
        refine g_pure (p_extract rfl rfl) rfl ?_
        refine g_pure (p_assign rfl) rfl ?_
        refine g_pure (p_assign rfl) rfl ?_
        refine g_nil ?_
        refine g_qt ?_
        refine g_seq ?_
        refine g_region ?_
        refine g_pure (p_move rfl) rfl ?_
        refine g_pure (p_move rfl) rfl ?_
        refine g_call (Hin := []) (Hr := ?hr7) (R := ?rr7) rfl rfl rfl ?hin7 ?hc7 ?hk7
        case hin7 => repeat' (first | exact Cover.nil | exact Take.here | apply Cover.cons | apply Take.there)
        case hc7 => intro ρ' hρ hR; exact parts_ok n a c E (hE.mono fun b o h => hρ _ _ (hρ1 _ _ h)) (by omega)
        rintro _ _ ⟨x5, y5, rfl, rfl⟩
        refine g_pure (p_move rfl) rfl ?_
        refine g_pure (p_extract rfl rfl) rfl ?_
        refine g_pure (p_extract rfl rfl) rfl ?_
        refine g_pure (p_assign rfl) rfl ?_
        refine g_pure (p_assign rfl) rfl ?_
        refine g_nil ?_
        refine g_qt ?_
        refine g_seq ?_
        refine g_region ?_
        refine g_pure (p_move rfl) rfl ?_
        refine g_pure (p_move rfl) rfl ?_
        refine g_call (Hin := []) (Hr := ?hr8) (R := ?rr8) rfl rfl rfl ?hin8 ?hc8 ?hk8
        case hin8 => repeat' (first | exact Cover.nil | exact Take.here | apply Cover.cons | apply Take.there)
        case hc8 => intro ρ' hρ hR; exact parts_ok n sa sc F (hER.mono hρ) hlT
        rintro _ _ ⟨x6, y6, rfl, rfl⟩
        rw [← o3]
        refine g_freeze (A := Own2 _ _ x6 y6 _) (by repeat' (first | exact Take.here | apply Take.there)) ?_
        intro ρ2 hρ2 hP1
        have hP1 : LsR ρ2 x6 (partsA n E).1 := Own2.ro hP1
        refine g_freeze (A := Own2 _ _ x5 y5 _) (by repeat' (first | exact Take.here | apply Take.there)) ?_
        intro ρ3 hρ3 hP2
        have hP2 : LsR ρ3 x5 (partsA n E).1 := Own2.ro hP2
        refine g_pure (p_move rfl) rfl ?_
        refine g_pure (p_extract rfl rfl) rfl ?_
        refine g_pure (p_extract rfl rfl) rfl ?_
        refine g_pure (p_assign rfl) rfl ?_
        refine g_pure (p_assign rfl) rfl ?_
        refine g_nil ?_
        refine g_qt ?_
        refine g_seq ?_
        refine g_region ?_
        refine g_pure (p_move rfl) rfl ?_
        refine g_pure (p_move rfl) rfl ?_
        refine g_pure (p_eqlT rfl rfl rfl) rfl ?_
        refine g_pure (p_move rfl) rfl ?_
        refine g_yes rfl rfl ?_
        refine g_pure (p_move rfl) rfl ?_
        refine g_yes rfl rfl ?_
        refine g_pure (p_move rfl) rfl ?_
        refine g_yes rfl rfl ?_
        refine g_pure (p_eqlT rfl rfl rfl) rfl ?_
        first | refine g_pure (p_pickt rfl rfl) rfl ?_ | refine g_pure (p_pickf rfl rfl) rfl ?_
        refine g_pure (p_move rfl) rfl ?_
        refine g_yes rfl rfl ?_
        refine g_pure (p_move rfl) rfl ?_
        refine g_yes rfl rfl ?_
        refine g_pure (p_move rfl) rfl ?_
        refine g_yes rfl rfl ?_
        refine g_pure (p_eqlT rfl rfl rfl) rfl ?_
        first | refine g_pure (p_pickt rfl rfl) rfl ?_ | refine g_pure (p_pickf rfl rfl) rfl ?_
        refine g_pure (p_move rfl) rfl ?_
        refine g_yes rfl rfl ?_
        refine g_pure (p_move rfl) rfl ?_
        refine g_yes rfl rfl ?_
        refine g_pure (p_move rfl) rfl ?_
        refine g_yes rfl rfl ?_
        refine g_call (Hin := []) (Hr := ?hr9) (R := ?rr9) rfl rfl rfl ?hin9 ?hc9 ?hk9
        case hin9 => repeat' (first | exact Cover.nil | exact Take.here | apply Cover.cons | apply Take.there)
        case hc9 => intro ρ' hρ hR; exact sameT_ok x1 x2 y1 y2 _ _ (RSl.of_own (Take.ro (A := OwnSl 3 1 x1 _ y1 _) (by repeat' (first | exact Take.here | apply Take.there)) hR)) (RSl.of_own (Take.ro (A := OwnSl 3 1 x2 _ y2 _) (by repeat' (first | exact Take.here | apply Take.there)) hR)) (by omega) rfl
        rintro _ _ ⟨rfl, rfl⟩
        first | refine g_pure (p_pickt rfl rfl) rfl ?_ | refine g_pure (p_pickf rfl rfl) rfl ?_
        refine g_pure (p_move rfl) rfl ?_
        refine g_yes rfl rfl ?_
        refine g_pure (p_move rfl) rfl ?_
        refine g_yes rfl rfl ?_
        refine g_pure (p_move rfl) rfl ?_
        refine g_yes rfl rfl ?_
        refine g_call (Hin := []) (Hr := ?hr10) (R := ?rr10) rfl rfl rfl ?hin10 ?hc10 ?hk10
        case hin10 => repeat' (first | exact Cover.nil | exact Take.here | apply Cover.cons | apply Take.there)
        case hc10 => intro ρ' hρ hR; exact sameT_ok x3 x4 y3 y4 _ _ (RSl.of_own (Take.ro (A := OwnSl 3 1 x3 _ y3 _) (by repeat' (first | exact Take.here | apply Take.there)) hR)) (RSl.of_own (Take.ro (A := OwnSl 3 1 x4 _ y4 _) (by repeat' (first | exact Take.here | apply Take.there)) hR)) (by omega) rfl
        rintro _ _ ⟨rfl, rfl⟩
        first | refine g_pure (p_pickt rfl rfl) rfl ?_ | refine g_pure (p_pickf rfl rfl) rfl ?_
        refine g_pure (p_move rfl) rfl ?_
        refine g_yes rfl rfl ?_
        refine g_pure (p_move rfl) rfl ?_
        refine g_yes rfl rfl ?_
        refine g_pure (p_move rfl) rfl ?_
        refine g_yes rfl rfl ?_
        refine g_call (Hin := []) (Hr := ?hr11) (R := ?rr11) rfl rfl rfl ?hin11 ?hc11 ?hk11
        case hin11 => repeat' (first | exact Cover.nil | exact Take.here | apply Cover.cons | apply Take.there)
        case hc11 => intro ρ' hρ hR; exact listsT_ok x5 x6 y5 y6 _ _ (hP2.mono hρ) (hP1.mono fun b o h => hρ _ _ (hρ3 _ _ h)) (by omega) (fun l hl => by have := k4 l hl; omega) rfl
        rintro _ _ ⟨rfl, rfl⟩
        first | refine g_pure (p_pickt rfl rfl) rfl ?_ | refine g_pure (p_pickf rfl rfl) rfl ?_
        refine g_pure (p_move rfl) rfl ?_
        refine g_yes rfl rfl ?_
        refine g_call (Hin := []) (Hr := ?hr12) (R := ?rr12) rfl rfl rfl ?hin12 ?hc12 ?hk12
        case hin12 => repeat' (first | exact Cover.nil | exact Take.here | apply Cover.cons | apply Take.there)
        case hc12 => intro ρ' hρ hR; exact awake_ok
        rintro _ _ ⟨rfl, rfl⟩
        first | refine g_pure (p_pickt rfl rfl) rfl ?_ | refine g_pure (p_pickf rfl rfl) rfl ?_
        refine g_pure (p_assign rfl) rfl ?_
        refine g_nil ?_
        refine g_qt ?_
        refine g_ret ?_
        refine g_thaw hρ3 ?_
        refine g_thaw hρ2 ?_
        refine g_thaw hρ1 ?_
        exact g_post (rs := [.tmp 4]) rfl (.tmp rfl .nil) rfl .nil
end Go.Proofs.Ytmefecnjliadaaa
