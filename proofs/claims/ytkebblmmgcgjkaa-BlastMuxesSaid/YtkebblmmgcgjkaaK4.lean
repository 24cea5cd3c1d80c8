/- Chapter 38: the document's Apply, and helpers of the statements: the walk. Conditions: none. -/
import Derived.Test.YtkebblmmgcgjkaaK3
namespace Go.Proofs.Ytkebblmmgcgjkaa
set_option maxRecDepth 8000
set_option linter.unusedVariables false
set_option linter.unusedSimpArgs false
set_option linter.unusedSectionVars false
open Go Go.Z Go.Z.Val Go.Z.Aig Go.Z.Bit

theorem brd2 {ρ : Nat → Obj → Prop} {al : Option Addr} {lss : List (List Bool)} (h : RSl2 ρ al (lss.map (·.map encB))) : ∃ b off cs T fz, 0 < lss.length → al = some ⟨b, off, none⟩ ∧ ρ b (.cells (cs : List Value).toArray T fz) ∧ ∀ j (hj : j < lss.length), ∃ ai ci, cs[off + j * 1]? = some (.slice ai lss[j].length ci) ∧ RSl ρ 1 ai lss[j].length (lss[j].map encB) := by
  by_cases h0 : 0 < lss.length
  · obtain ⟨b, off, cs, T, fz, h1, h2, h3⟩ := h.at (by rw [List.length_map]; exact h0)
    refine ⟨b, off, cs, T, fz, fun _ => ⟨h1, h2, fun j hj => ?_⟩⟩
    obtain ⟨ai, ci, e1, e2⟩ := h3 j (by rw [List.length_map]; exact hj)
    rw [List.getElem_map, List.length_map] at e1
    rw [List.getElem_map, List.length_map] at e2
    exact ⟨ai, ci, by rw [Nat.mul_one]; exact e1, e2⟩
  · exact ⟨0, 0, [], 0, (0, 0), fun h => absurd h h0⟩
theorem take_map_succ {α β : Type} (f : α → β) {l : List α} {k : Nat} (h : k < l.length) : (l.take k).map f ++ [f l[k]] = (l.take (k + 1)).map f := by
  rw [List.take_add_one, List.getElem?_eq_getElem h, Option.toList_some, List.map_append]; rfl
theorem getD_len {args : List (List Bool)} (h : ∀ x ∈ args, x.length ≤ 40) (k : Nat) : (args.map List.length).getD k 0 ≤ 1000000 := by
  rw [List.getD_eq_getElem?_getD, List.getElem?_map]
  cases e : args[k]? with
  | none => simp
  | some x => have := h x (List.mem_of_getElem? e); simp; omega

theorem dapply38_ok {ρ : Nat → Obj → Prop} {aa : Option Addr} {ac : Nat} {args : List (List Bool)} (op : Int) (hr : RSl2 ρ aa (args.map (·.map encB))) (hn : args.length ≤ 1000) (hl : ∀ x ∈ args, x.length ≤ 40) :
    Con Try.prog ρ 30 #[.int .i64 op, .slice aa args.length ac] [] (fun v H => ∃ a c, v = .tuple #[.slice a (dF op args).1.length c, .int .i64 (dF op args).2] ∧ H = [OwnSl 4 1 a (dF op args).1.length c ((dF op args).1.map encB)]) := by
  obtain ⟨b1, o1, cs1, T1, fz1, hrd⟩ := brd2 hr
  refine con_intro Try.func30 Try.call30 rfl Try.ntmps30 rfl (L := [(0, _), (1, _)]) rfl fun w hh => ?_
  refine g_seq ?_
  refine g_region ?_
  refine g_pure (p_assign rfl) rfl ?_
  refine g_pure (p_assign rfl) rfl ?_
  refine g_nil ?_
  refine g_qt ?_
  refine g_seq ?_
  refine g_region ?_
  refine g_pure (p_assign rfl) rfl ?_
  refine g_pure (p_assign rfl) rfl ?_
  refine g_nil ?_
  refine g_qt ?_
  refine g_seq ?_
  refine g_seq ?_
  refine g_region ?_
  refine g_pure (p_assign rfl) rfl ?_
  refine g_nil ?_
  refine g_qt ?_
  refine g_block ?_
  refine g_ownnil (e := 3) (size := 1) ?_
  refine g_ownnil (e := 3) (size := 1) ?_
  refine g_loop (fun q : Nat × (Option Addr × Nat) × (Option Addr × Nat) => [(0, .int .i64 op), (1, .slice aa args.length ac), (6, .slice q.2.1.1 q.1 q.2.1.2), (7, .slice q.2.2.1 q.1 q.2.2.2), (8, .int .i64 q.1)])
    (fun q => [OwnSl 3 1 q.2.1.1 q.1 q.2.1.2 (((args.take q.1).map List.length).map encN), OwnSl 3 1 q.2.2.1 q.1 q.2.2.2 (((args.take q.1).map sg).map encI)]) (fun q => q.1 ≤ args.length) (fun q => args.length - q.1) (0, (none, 0), (none, 0)) (Nat.zero_le _) (by (repeat (first | exact trivial | refine ⟨by rfl, ?_⟩)); done) (by repeat' (first | exact Cover.nil | exact Take.here | apply Cover.cons | apply Take.there)) ?_
  rintro ⟨k, ⟨wa, wc⟩, va, vc⟩ hk
  dsimp only at hk ⊢
  refine g_seq ?_
  refine g_seq ?_
  refine g_region ?_
  refine g_pure (p_move rfl) rfl ?_
  refine g_pure (p_move rfl) rfl ?_
  refine g_pure (p_len (by rfl) rfl) rfl ?_
  refine g_pure (p_lss rfl rfl) rfl ?_
  refine g_nil ?_
  refine g_qt ?_
  refine g_ifd rfl (fun q => ?_) (fun q => ?_)
  · have hkl : k < args.length := by omega
    obtain ⟨r1, r2, r3⟩ := hrd (by omega)
    obtain ⟨ai, ci, e1, e2⟩ := r3 k hkl
    have hl40 := hl _ (List.getElem_mem hkl)
    refine g_skip ?_
    refine g_qt ?_
    refine g_seq ?_
    refine g_block ?_
    refine g_seq ?_
    refine g_region ?_
    refine g_pure (p_move rfl) rfl ?_
    refine g_pure (p_move rfl) rfl ?_
    refine g_pure (p_move rfl) rfl ?_
    refine g_pure (p_indexAddr rfl rfl (by omega) (fun _ => r1)) rfl ?_
    refine g_pure (p_load (by rfl) rfl (Has.ro r2) e1) rfl ?_
    refine g_pure (p_len (by rfl) rfl) rfl ?_
    refine g_eff (e_bs (xs := [.tmp 23]) rfl rfl rfl (by rfl) (by rfl) rfl (by rfl)) rfl (fun _ _ => ?_)
    rintro ⟨b24, rfl, rfl⟩
    refine g_eff (e_appendO (xs := ((args.take k).map List.length).map encN) (a1 := wa) (by rfl) (by rfl) rfl rfl (by first | (apply Has.own; (repeat' (first | exact Take.here | apply Take.there)); done)) (by rfl) (by rfl) (by repeat' (first | exact Take.here | apply Take.there)) (by omega) (by dsimp only; omega) (by omega)) rfl (fun _ _ => ?_)
    rintro ⟨a25, c25, rfl, rfl⟩
    refine g_pure (p_assign rfl) rfl ?_
    refine g_nil ?_
    refine g_qt ?_
    refine g_region ?_
    refine g_pure (p_move rfl) rfl ?_
    refine g_pure (p_move rfl) rfl ?_
    refine g_pure (p_move rfl) rfl ?_
    refine g_pure (p_indexAddr rfl rfl (by omega) (fun _ => r1)) rfl ?_
    refine g_pure (p_load (by rfl) rfl (Has.ro r2) e1) rfl ?_
    refine g_call (Hin := []) (Hr := ?hr1) (R := ?rr1) rfl rfl rfl ?hin1 ?hc1 ?hk1
    case hin1 => repeat' (first | exact Cover.nil | exact Take.here | apply Cover.cons | apply Take.there)
    case hc1 => intro ρ' hρ hR; exact number_ok (e2.mono hρ) hl40
    rintro _ _ ⟨rfl, rfl⟩
    refine g_eff (e_bs (xs := [.tmp 31]) rfl rfl rfl (by rfl) (by rfl) rfl (by rfl)) rfl (fun _ _ => ?_)
    rintro ⟨b32, rfl, rfl⟩
    refine g_eff (e_appendO (xs := ((args.take k).map sg).map encI) (a1 := va) (by rfl) (by rfl) rfl rfl (by first | (apply Has.own; (repeat' (first | exact Take.here | apply Take.there)); done)) (by rfl) (by rfl) (by repeat' (first | exact Take.here | apply Take.there)) (by omega) (by dsimp only; omega) (by omega)) rfl (fun _ _ => ?_)
    rintro ⟨a33, c33, rfl, rfl⟩
    refine g_pure (p_assign rfl) rfl ?_
    refine g_nil ?_
    refine g_qb ?_
    refine g_qt ?_
    refine g_region ?_
    refine g_pure (p_move rfl) rfl ?_
    first | refine g_pure (p_addi rfl rfl (by omega)) rfl ?_ | refine g_pure (p_add rfl rfl) rfl ?_
    refine g_pure (p_assign rfl) rfl ?_
    refine g_nil ?_
    refine g_qn ?_
    have e3 : ((args.take k).map List.length).map encN ++ [Value.int .i64 (args[k].length : Nat)] = ((args.take (k + 1)).map List.length).map encN := by
      rw [← take_map_succ List.length hkl, List.map_append]; rfl
    have e4 : ((args.take k).map sg).map encI ++ [Value.int .i64 (sg args[k])] = ((args.take (k + 1)).map sg).map encI := by
      rw [← take_map_succ sg hkl, List.map_append]; rfl
    rw [e3, e4]
    exact g_next (k + 1, (a25, c25), (a33, c33)) (by (repeat (first | exact trivial | refine ⟨by rfl, ?_⟩)); done) (by repeat' (first | exact Cover.nil | exact Take.here | apply Cover.cons | apply Take.there)) (by dsimp only; omega) (by dsimp only; omega)
  · have hke : k = args.length := by omega
    subst hke
    rw [List.take_of_length_le (Nat.le_refl _)]
    have hwl : args.length = (args.map List.length).length := (List.length_map _).symm
    have hvl : args.length = (args.map sg).length := (List.length_map _).symm
    refine g_exit ?_
    refine g_qt_exit ?_
    refine g_qn_exit ?_
    refine g_qb_exit ?_
    refine g_qt ?_
    refine g_seq ?_
    refine g_region ?_
    refine g_pure (p_move rfl) rfl ?_
    refine g_pure (p_move rfl) rfl ?_
    refine g_call (Hin := []) (Hr := ?hr2) (R := ?rr2) rfl rfl rfl ?hin2 ?hc2 ?hk2
    case hin2 => repeat' (first | exact Cover.nil | exact Take.here | apply Cover.cons | apply Take.there)
    case hc2 => intro ρ' hρ hR; exact (by have := form_ok (ρ := ρ') (wc := wc) op (by have := RSl.of_own (Take.ro (A := OwnSl 3 1 wa args.length wc ((args.map List.length).map encN)) (by repeat' (first | exact Take.here | apply Take.there)) hR); rw [hwl] at this; exact this) (by rw [← hwl]; omega) (getD_len hl); rw [← hwl] at this; exact this)
    rintro _ _ ⟨rfl, rfl⟩
    refine g_pure (p_move rfl) rfl ?_
    refine g_pure (p_extract rfl rfl) rfl ?_
    refine g_pure (p_extract rfl rfl) rfl ?_
    refine g_pure (p_assign rfl) rfl ?_
    refine g_pure (p_assign rfl) rfl ?_
    refine g_nil ?_
    refine g_qt ?_
    refine g_seq ?_
    refine g_seq ?_
    refine g_region ?_
    refine g_pure (p_move rfl) rfl ?_
    refine g_pure (p_neq rfl rfl) rfl ?_
    refine g_nil ?_
    refine g_qt ?_
    by_cases h0 : (formF op (args.map List.length)).2 = 0
    · have hd : dF op args = (bitsR (outF op) (opF op (sg (args.headD [])) (sg (args.getLastD []))), 0) := by unfold dF; rw [if_pos h0]
      have hw : (formF op (args.map List.length)).1 = outF op := (form_ok0 h0).2.2.1
      have ho : outF op ≤ 16 := by unfold outF; split <;> omega
      have hap := form_apply h0
      have hin := opF_in op (sg (args.headD [])) (sg (args.getLastD []))
      rw [h0, hw]
      refine g_iff rfl ?_
      refine g_skip ?_
      refine g_qt ?_
      refine g_seq ?_
      refine g_region ?_
      refine g_pure (p_move rfl) rfl ?_
      refine g_pure (p_move rfl) rfl ?_
      refine g_call (Hin := []) (Hr := ?hr3) (R := ?rr3) rfl rfl rfl ?hin3 ?hc3 ?hk3
      case hin3 => repeat' (first | exact Cover.nil | exact Take.here | apply Cover.cons | apply Take.there)
      case hc3 => intro ρ' hρ hR; exact (by have := Go.Proofs.Ytkebblmmgcgjkaa.dapply_ok (ρ := ρ') (ac := vc) op (by have := RSl.of_own (Take.ro (A := OwnSl 3 1 va args.length vc ((args.map sg).map encI)) (by repeat' (first | exact Take.here | apply Take.there)) hR); rw [hvl] at this; exact this) (by rw [← hvl]; omega); rw [← hvl, hap] at this; exact this)
      rintro _ _ ⟨rfl, rfl⟩
      refine g_pure (p_move rfl) rfl ?_
      refine g_pure (p_extract rfl rfl) rfl ?_
      refine g_pure (p_extract rfl rfl) rfl ?_
      refine g_pure (p_assign rfl) rfl ?_
      refine g_pure (p_assign rfl) rfl ?_
      refine g_nil ?_
      refine g_qt ?_
      refine g_seq ?_
      refine g_region ?_
      refine g_pure (p_move rfl) rfl ?_
      refine g_pure (p_move rfl) rfl ?_
      refine g_call (Hin := []) (Hr := ?hr4) (R := ?rr4) rfl rfl rfl ?hin4 ?hc4 ?hk4
      case hin4 => repeat' (first | exact Cover.nil | exact Take.here | apply Cover.cons | apply Take.there)
      case hc4 => intro ρ' hρ hR; exact dbits_ok (opF op (sg (args.headD [])) (sg (args.getLastD []))) (by unfold I64; omega) (outF op) (by omega)
      rintro _ _ ⟨oa, oc, rfl, rfl⟩
      refine g_pure (p_move rfl) rfl ?_
      refine g_pure (p_assign rfl) rfl ?_
      refine g_pure (p_assign rfl) rfl ?_
      refine g_nil ?_
      refine g_qt ?_
      refine g_ret ?_
      exact g_post (Ho := [OwnSl 4 1 oa (outF op) oc ((bitsR (outF op) (opF op (sg (args.headD [])) (sg (args.getLastD [])))).map encB)]) (rs := [.tmp 4, .tmp 5]) rfl (.tmp rfl (.tmp rfl .nil)) ⟨oa, oc, by rw [hd, bitsR_len]; rfl, by rw [hd, bitsR_len]⟩ (by repeat' (first | exact Cover.nil | exact Take.here | apply Cover.cons | apply Take.there))
    · have hd : dF op args = ([], (formF op (args.map List.length)).2) := by unfold dF; rw [if_neg h0]
      refine g_ifnd rfl (fun h1 => ?_) (fun h1 => ?_)
      · refine g_seq ?_
        refine g_region ?_
        refine g_pure (p_move rfl) rfl ?_
        refine g_pure (p_assign rfl) rfl ?_
        refine g_pure (p_assign rfl) rfl ?_
        refine g_nil ?_
        refine g_qt ?_
        refine g_ret ?_
        refine g_qt_ret ?_
        refine g_ownnil (e := 4) (size := 1) ?_
        exact g_post (rs := [.tmp 4, .tmp 5]) rfl (.tmp rfl (.tmp rfl .nil)) ⟨none, 0, by rw [hd]; rfl, by rw [hd]⟩ (by repeat' (first | exact Cover.nil | exact Take.here | apply Cover.cons | apply Take.there))
      · exact absurd h1 h0

theorem few_ok {ρ : Nat → Obj → Prop} {ea : Option Addr} {ec : Nat} {es : List En} (h : EnR ρ ea es) (hl : es.length ≤ maxLen) : Con Try.prog ρ 19 #[.slice ea es.length ec] [] (fun v H => (∃ b, v = .bool b) ∧ H = []) := by
  obtain ⟨⟨_, bl, ol, kl, Tl, fl, hk⟩, he⟩ := h
  have eM : maxLen = 9223372036854775807 := rfl
  refine con_intro Try.func19 Try.call19 rfl Try.ntmps19 rfl (L := [(0, _)]) rfl fun w hh => ?_
  refine g_seq ?_
  refine g_region ?_
  refine g_pure (p_assign rfl) rfl ?_
  refine g_nil ?_
  refine g_qt ?_
  refine g_seq ?_
  refine g_seq ?_
  refine g_region ?_
  refine g_pure (p_move rfl) rfl ?_
  refine g_pure (p_len (by rfl) rfl) rfl ?_
  refine g_pure (p_gtr rfl rfl) rfl ?_
  refine g_nil ?_
  refine g_qt ?_
  refine g_ifd rfl (fun a1 => ?_) (fun a1 => ?_)
  · refine g_seq ?_
    refine g_region ?_
    refine g_pure (p_assign rfl) rfl ?_
    refine g_nil ?_
    refine g_qt ?_
    refine g_ret ?_
    refine g_qt_ret ?_
    exact g_post (Ho := []) (rs := [.tmp 2]) rfl (.tmp rfl .nil) ⟨⟨_, rfl⟩, rfl⟩ .nil
  · refine g_skip ?_
    refine g_qt ?_
    refine g_seq ?_
    refine g_seq ?_
    refine g_region ?_
    refine g_pure (p_assign rfl) rfl ?_
    refine g_nil ?_
    refine g_qt ?_
    refine g_block ?_
    refine g_loop (fun k : Nat => [(0, .slice ea es.length ec), (3, .int .i64 k)]) (fun _ => []) (fun k => k ≤ es.length) (fun k => es.length - k) 0 (Nat.zero_le _) (by (repeat (first | exact trivial | refine ⟨by rfl, ?_⟩)); done) .nil ?_
    rintro k hk1
    refine g_seq ?_
    refine g_seq ?_
    refine g_region ?_
    refine g_pure (p_move rfl) rfl ?_
    refine g_pure (p_move rfl) rfl ?_
    refine g_pure (p_len (by rfl) rfl) rfl ?_
    refine g_pure (p_lss rfl rfl) rfl ?_
    refine g_nil ?_
    refine g_qt ?_
    refine g_ifd rfl (fun q => ?_) (fun q => ?_)
    · have hkl : k < es.length := by omega
      obtain ⟨l1, l2, l3⟩ := hk (by omega)
      obtain ⟨_, _, x0⟩ := en_at l3 hkl
      refine g_skip ?_
      refine g_qt ?_
      refine g_seq ?_
      refine g_block ?_
      refine g_seq ?_
      refine g_region ?_
      refine g_pure (p_move rfl) rfl ?_
      refine g_pure (p_move rfl) rfl ?_
      refine g_pure (p_indexAddr rfl rfl (by omega) (fun _ => l1)) rfl ?_
      refine g_pure (p_fieldAddr rfl) rfl ?_
      refine g_pure (p_load (by rfl) rfl (Has.ro l2) x0) rfl ?_
      refine g_pure (p_len (by rfl) rfl) rfl ?_
      refine g_pure (p_gtr rfl rfl) rfl ?_
      refine g_nil ?_
      refine g_qt ?_
      refine g_ifd rfl (fun q2 => ?_) (fun q2 => ?_)
      · refine g_seq ?_
        refine g_region ?_
        refine g_pure (p_assign rfl) rfl ?_
        refine g_nil ?_
        refine g_qt ?_
        refine g_ret ?_
        refine g_qb_ret ?_
        refine g_qt_ret ?_
        refine g_qn_ret ?_
        refine g_qb_ret ?_
        refine g_qt_ret ?_
        exact g_post (Ho := []) (rs := [.tmp 2]) rfl (.tmp rfl .nil) ⟨⟨_, rfl⟩, rfl⟩ .nil
      · refine g_skip ?_
        refine g_qb ?_
        refine g_qt ?_
        refine g_region ?_
        refine g_pure (p_move rfl) rfl ?_
        first | refine g_pure (p_addi rfl rfl (by omega)) rfl ?_ | refine g_pure (p_add rfl rfl) rfl ?_
        refine g_pure (p_assign rfl) rfl ?_
        refine g_nil ?_
        refine g_qn ?_
        exact g_next (k + 1) (by (repeat (first | exact trivial | refine ⟨by rfl, ?_⟩)); done) .nil (by omega) (by omega)
    · refine g_exit ?_
      refine g_qt_exit ?_
      refine g_qn_exit ?_
      refine g_qb_exit ?_
      refine g_qt ?_
      refine g_seq ?_
      refine g_region ?_
      refine g_pure (p_assign rfl) rfl ?_
      refine g_nil ?_
      refine g_qt ?_
      refine g_ret ?_
      exact g_post (Ho := []) (rs := [.tmp 2]) rfl (.tmp rfl .nil) ⟨⟨_, rfl⟩, rfl⟩ .nil

theorem bools38_ok {ρ : Nat → Obj → Prop} {xa ya : Option Addr} {xc yc : Nat} {xs ys : List Bool} (hx : RSl ρ 1 xa xs.length (xs.map encB)) (hy : RSl ρ 1 ya ys.length (ys.map encB)) (hn : xs.length ≤ 1000000) (he : xs = ys) :
    Con Try.prog ρ 31 #[.slice xa xs.length xc, .slice ya ys.length yc] [] (fun v H => v = .bool true ∧ H = []) := by
  subst he
  obtain ⟨b1, o1, cs1, T1, fz1, hr⟩ := brd hx
  obtain ⟨b2, o2, cs2, T2, fz2, hr2⟩ := brd hy
  refine con_intro Try.func31 Try.call31 rfl Try.ntmps31 rfl (L := [(0, _), (1, _)]) rfl fun w hh => ?_
  refine g_seq ?_
  refine g_region ?_
  refine g_pure (p_assign rfl) rfl ?_
  refine g_nil ?_
  refine g_qt ?_
  refine g_seq ?_
  refine g_seq ?_
  refine g_region ?_
  refine g_pure (p_move rfl) rfl ?_
  refine g_pure (p_len (by rfl) rfl) rfl ?_
  refine g_pure (p_move rfl) rfl ?_
  refine g_pure (p_len (by rfl) rfl) rfl ?_
  refine g_pure (p_neqF rfl rfl rfl) rfl ?_
  refine g_nil ?_
  refine g_qt ?_
  refine g_iff rfl ?_
  refine g_skip ?_
  refine g_qt ?_
  refine g_seq ?_
  refine g_seq ?_
  refine g_region ?_
  refine g_pure (p_assign rfl) rfl ?_
  refine g_nil ?_
  refine g_qt ?_
  refine g_block ?_
  refine g_loop (fun k : Nat => [(0, .slice xa xs.length xc), (1, .slice ya xs.length yc), (5, .int .i64 k)]) (fun _ => []) (fun k => k ≤ xs.length) (fun k => xs.length - k) 0 (Nat.zero_le _) (by (repeat (first | exact trivial | refine ⟨by rfl, ?_⟩)); done) .nil ?_
  rintro k hk1
  refine g_seq ?_
  refine g_seq ?_
  refine g_region ?_
  refine g_pure (p_move rfl) rfl ?_
  refine g_pure (p_move rfl) rfl ?_
  refine g_pure (p_len (by rfl) rfl) rfl ?_
  refine g_pure (p_lss rfl rfl) rfl ?_
  refine g_nil ?_
  refine g_qt ?_
  refine g_ifd rfl (fun q => ?_) (fun q => ?_)
  · have hkl : k < xs.length := by omega
    obtain ⟨r1, r2, r3⟩ := hr (by omega)
    obtain ⟨s1, s2, s3⟩ := hr2 (by omega)
    refine g_skip ?_
    refine g_qt ?_
    refine g_seq ?_
    refine g_block ?_
    refine g_seq ?_
    refine m_begin0 (.fl 0 0 (.fl 1 0 (.fl 2 0 (.fl 3 1 (.fl 4 0 (.fl 5 0 (.fl 6 0 (.fl 7 1 (.fl 8 0 .done))))))))) (by kernel_rfl) (by kernel_rfl) ?_
    refine m_float0 rfl (fun _ _ => p_move rfl) rfl ?_
    refine m_float0 rfl (fun _ _ => p_move rfl) rfl ?_
    refine m_float0 rfl (fun _ _ => p_indexAddr rfl rfl (by omega) (fun _ => r1)) rfl ?_
    refine m_float rfl (p_load (by rfl) rfl (Has.ro r2) (r3 k hkl)) rfl ?_
    refine m_float0 rfl (fun _ _ => p_move rfl) rfl ?_
    refine m_float0 rfl (fun _ _ => p_move rfl) rfl ?_
    refine m_float0 rfl (fun _ _ => p_indexAddr rfl rfl (by omega) (fun _ => s1)) rfl ?_
    refine m_float rfl (p_load (by rfl) rfl (Has.ro s2) (s3 k hkl)) rfl ?_
    refine m_float0 rfl (fun _ _ => p_neqbF (by rfl) rfl rfl rfl) rfl ?_
    refine m_nil ?_
    refine g_qt ?_
    refine g_iff rfl ?_
    refine g_skip ?_
    refine g_qb ?_
    refine g_qt ?_
    refine g_region ?_
    refine g_pure (p_move rfl) rfl ?_
    first | refine g_pure (p_addi rfl rfl (by omega)) rfl ?_ | refine g_pure (p_add rfl rfl) rfl ?_
    refine g_pure (p_assign rfl) rfl ?_
    refine g_nil ?_
    refine g_qn ?_
    exact g_next (k + 1) (by (repeat (first | exact trivial | refine ⟨by rfl, ?_⟩)); done) .nil (by omega) (by omega)
  · refine g_exit ?_
    refine g_qt_exit ?_
    refine g_qn_exit ?_
    refine g_qb_exit ?_
    refine g_qt ?_
    refine g_seq ?_
    refine g_region ?_
    refine g_pure (p_assign rfl) rfl ?_
    refine g_nil ?_
    refine g_qt ?_
    refine g_ret ?_
    exact g_post (Ho := []) (rs := [.tmp 4]) rfl (.tmp rfl .nil) ⟨rfl, rfl⟩ .nil

theorem inputs38_ok {ρ : Nat → Obj → Prop} (m : Nat) (hm : m ≤ 500) : Con Try.prog ρ 27 #[.int .i64 m] [] (fun v H => ∃ p a c, v = .tuple #[.pointer (some ⟨p, 0, none⟩), .slice a m c] ∧ H = [Gr p (S0 m), OwnSl 27 1 a m c ((inL m).map encI)]) := by
  refine con_intro Try.func27 Try.call27 rfl Try.ntmps27 rfl (L := [(0, _)]) rfl fun w hh => ?_
  refine g_seq ?_
  refine g_region ?_
  refine g_pure (p_assign rfl) rfl ?_
  refine g_pure (p_assign rfl) rfl ?_
  refine g_nil ?_
  refine g_qt ?_
  refine g_seq ?_
  refine g_region ?_
  refine g_call (Hin := []) (Hr := ?hr5) (R := ?rr5) rfl rfl rfl ?hin5 ?hc5 ?hk5
  case hin5 => repeat' (first | exact Cover.nil | exact Take.here | apply Cover.cons | apply Take.there)
  case hc5 => intro ρ' hρ hR; exact new_ok
  rintro _ _ ⟨p, rfl, rfl⟩
  refine g_pure (p_assign rfl) rfl ?_
  refine g_nil ?_
  refine g_qt ?_
  refine g_seq ?_
  refine g_region ?_
  refine g_pure (p_assign rfl) rfl ?_
  refine g_nil ?_
  refine g_qt ?_
  refine g_seq ?_
  refine g_seq ?_
  refine g_region ?_
  refine g_pure (p_assign rfl) rfl ?_
  refine g_nil ?_
  refine g_qt ?_
  refine g_block ?_
  refine g_ownnil (e := 27) (size := 1) ?_
  refine g_loop (fun q : Nat × Option Addr × Nat => [(0, .int .i64 m), (4, .pointer (some ⟨p, 0, none⟩)), (5, .slice q.2.1 q.1 q.2.2), (6, .int .i64 q.1)])
    (fun q => [OwnSl 27 1 q.2.1 q.1 q.2.2 ((inL q.1).map encI), Gr p (S0 q.1)]) (fun q => q.1 ≤ m) (fun q => m - q.1) (0, none, 0) (Nat.zero_le _) (by (repeat (first | exact trivial | refine ⟨by rfl, ?_⟩)); done) (by repeat' (first | exact Cover.nil | exact Take.here | apply Cover.cons | apply Take.there)) ?_
  rintro ⟨k, oa, oc⟩ hk
  dsimp only at hk ⊢
  refine g_seq ?_
  refine g_seq ?_
  refine g_region ?_
  refine g_pure (p_move rfl) rfl ?_
  refine g_pure (p_move rfl) rfl ?_
  refine g_pure (p_lss rfl rfl) rfl ?_
  refine g_pure (p_move rfl) rfl ?_
  refine g_splitd rfl rfl (fun q => ?_) (fun q => ?_)
  · have e1 : input1 (S0 k) = (2 * ((k : Int) + 1), 0, S0 (k + 1)) := by
      unfold input1 Aig.add
      rw [if_neg (by rw [S0_len]; omega), S0_succ, S0_len]; rfl
    have e3 : (inL (k + 1)).map encI = (inL k).map encI ++ [.int .i64 (2 * ((k : Int) + 1))] := by
      unfold inL; rw [List.range_succ, List.map_append, List.map_append]; rfl
    refine g_yes rfl rfl ?_
    refine g_pure (p_move rfl) rfl ?_
    refine g_yes rfl rfl ?_
    refine g_pure (p_nenil (by rfl) rfl rfl) rfl ?_
    first | refine g_pure (p_pickt rfl rfl) rfl ?_ | refine g_pure (p_pickf rfl rfl) rfl ?_
    refine g_nil ?_
    refine g_qt ?_
    refine g_ift rfl ?_
    refine g_skip ?_
    refine g_qt ?_
    refine g_seq ?_
    refine g_block ?_
    refine g_seq ?_
    refine g_region ?_
    refine g_pure (p_move rfl) rfl ?_
    refine g_call (Hin := ?hi6) (Hr := ?hr6) (R := ?rr6) rfl rfl rfl ?hin6 ?hc6 ?hk6
    case hc6 => intro ρ' hρ hR; exact input_at e1
    case hin6 => repeat' (first | exact Cover.nil | exact Take.here | apply Cover.cons | apply Take.there)
    rintro _ _ ⟨rfl, rfl⟩
    refine g_pure (p_move rfl) rfl ?_
    refine g_pure (p_extract rfl rfl) rfl ?_
    refine g_pure (p_extract rfl rfl) rfl ?_
    refine g_pure (p_assign rfl) rfl ?_
    refine g_pure (p_assign rfl) rfl ?_
    refine g_nil ?_
    refine g_qt ?_
    refine g_seq ?_
    refine g_seq ?_
    refine g_region ?_
    refine g_pure (p_move rfl) rfl ?_
    refine g_pure (p_neq rfl rfl) rfl ?_
    refine g_nil ?_
    refine g_qt ?_
    refine g_iff rfl ?_
    refine g_skip ?_
    refine g_qt ?_
    refine g_region ?_
    refine g_pure (p_move rfl) rfl ?_
    refine g_pure (p_move rfl) rfl ?_
    refine g_eff (e_bs (xs := [.tmp 27]) rfl rfl rfl (by rfl) (by rfl) rfl (by rfl)) rfl (fun _ _ => ?_)
    rintro ⟨b28, rfl, rfl⟩
    refine g_eff (e_appendO (by rfl) (by rfl) rfl rfl (by first | (apply Has.own; (repeat' (first | exact Take.here | apply Take.there)); done) | exact Has.ro (by assumption)) (by rfl) (by rfl) (by repeat' (first | exact Take.here | apply Take.there)) (by omega) (by first | omega | (dsimp only; omega) | (simp <;> omega)) (by omega)) rfl (fun _ _ => ?_)
    rintro ⟨a29, c29, rfl, rfl⟩
    refine g_pure (p_assign rfl) rfl ?_
    refine g_nil ?_
    refine g_qb ?_
    refine g_qt ?_
    refine g_region ?_
    refine g_pure (p_move rfl) rfl ?_
    first | refine g_pure (p_addi rfl rfl (by omega)) rfl ?_ | refine g_pure (p_add rfl rfl) rfl ?_
    refine g_pure (p_assign rfl) rfl ?_
    refine g_nil ?_
    refine g_qn ?_
    rw [← e3]
    exact g_next (k + 1, a29, c29) (by (repeat (first | exact trivial | refine ⟨by rfl, ?_⟩)); done) (by repeat' (first | exact Cover.nil | exact Take.here | apply Cover.cons | apply Take.there)) (by dsimp only; omega) (by dsimp only; omega)
  · have hkm : k = m := by omega
    subst hkm
    refine g_no rfl rfl rfl rfl ?_
    refine g_no rfl rfl rfl rfl ?_
    first | refine g_pure (p_pickt rfl rfl) rfl ?_ | refine g_pure (p_pickf rfl rfl) rfl ?_
    refine g_nil ?_
    refine g_qt ?_
    refine g_iff rfl ?_
    refine g_exit ?_
    refine g_qt_exit ?_
    refine g_qn_exit ?_
    refine g_qb_exit ?_
    refine g_qt ?_
    refine g_seq ?_
    refine g_region ?_
    refine g_pure (p_move rfl) rfl ?_
    refine g_pure (p_move rfl) rfl ?_
    refine g_pure (p_assign rfl) rfl ?_
    refine g_pure (p_assign rfl) rfl ?_
    refine g_nil ?_
    refine g_qt ?_
    refine g_ret ?_
    exact g_post (rs := [.tmp 2, .tmp 3]) rfl (.tmp rfl (.tmp rfl .nil)) ⟨p, oa, oc, rfl, rfl⟩ (by repeat' (first | exact Cover.nil | exact Take.here | apply Cover.cons | apply Take.there))
end Go.Proofs.Ytkebblmmgcgjkaa
