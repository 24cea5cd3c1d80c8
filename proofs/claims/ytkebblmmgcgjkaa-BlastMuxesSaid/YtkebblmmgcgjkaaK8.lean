/- BlastApplies. Conditions: none. -/
import Derived.Test.YtkebblmmgcgjkaaK7
namespace Go.Z.Bit
set_option maxRecDepth 8000
set_option linter.unusedVariables false
set_option linter.unusedSimpArgs false
set_option linter.unusedSectionVars false
open Go Go.Z Go.Z.Val Go.Z.Aig
def offs (args : List (List Bool)) (j : Nat) : Nat := (args.take j).flatten.length
def cutL {α : Type} (args : List (List Bool)) (l : List α) : List (List α) := (List.range args.length).map fun j => (l.drop (offs args j)).take (args.getD j []).length
theorem cutL_len {α : Type} (args : List (List Bool)) (l : List α) : (cutL args l).length = args.length := by simp [cutL]
theorem offs_succ {args : List (List Bool)} {j : Nat} (h : j < args.length) : offs args (j + 1) = offs args j + args[j].length := by
  unfold offs
  rw [List.take_add_one, List.getElem?_eq_getElem h, Option.toList_some, List.flatten_append, List.length_append]; simp
theorem offs_le (args : List (List Bool)) (j : Nat) : offs args j ≤ args.flatten.length := by
  unfold offs
  conv => rhs; rw [← List.take_append_drop j args, List.flatten_append, List.length_append]
  omega
theorem cutL_at {α : Type} {args : List (List Bool)} {l : List α} {j : Nat} (h : j < args.length) : (cutL args l)[j]'(by rw [cutL_len]; exact h) = (l.drop (offs args j)).take args[j].length := by
  unfold cutL
  rw [List.getElem_map, List.getElem_range, List.getD_eq_getElem?_getD, List.getElem?_eq_getElem h]; rfl
theorem cut_flat {args : List (List Bool)} {j : Nat} (h : j < args.length) : (args.flatten.drop (offs args j)).take args[j].length = args[j] := by
  have e : args.flatten = (args.take j).flatten ++ (args[j] ++ (args.drop (j + 1)).flatten) := by
    conv => lhs; rw [← List.take_append_drop j args, List.flatten_append, List.drop_eq_getElem_cons h, List.flatten_cons]
  unfold offs
  rw [e, List.drop_left, List.take_left]
theorem cutL_lens {α : Type} {args : List (List Bool)} {l : List α} (h : l.length = args.flatten.length) : (cutL args l).map List.length = args.map List.length := by
  apply List.ext_getElem
  · rw [List.length_map, List.length_map, cutL_len]
  · intro j h1 h2
    have hj : j < args.length := by simpa using h2
    rw [List.getElem_map, List.getElem_map, cutL_at hj, List.length_take, List.length_drop, h]
    have h3 := offs_le args (j + 1)
    rw [offs_succ hj] at h3
    omega
theorem cutL_map {α : Type} {args : List (List Bool)} {l : List α} {V : α → Bool} (h : l.map V = args.flatten) : (cutL args l).map (·.map V) = args := by
  apply List.ext_getElem
  · rw [List.length_map, cutL_len]
  · intro j h1 h2
    rw [List.getElem_map, cutL_at h2, List.map_take, List.map_drop, h, cut_flat h2]
theorem headD_map {α β : Type} (f : α → β) (l : List α) (d : α) : f (l.headD d) = (l.map f).headD (f d) := by cases l <;> rfl
theorem lastD_map {α β : Type} (f : α → β) : ∀ (l : List α) (d : α), f (l.getLastD d) = (l.map f).getLastD (f d)
  | [], _ => rfl
  | x :: l, d => by
    rw [List.getLastD_cons, List.map_cons, List.getLastD_cons]
    exact lastD_map f l x
theorem cutL_mem {α : Type} {args : List (List Bool)} {l : List α} {x : α} (h : x ∈ (cutL args l).flatten) : x ∈ l := by
  obtain ⟨r, h1, h2⟩ := List.mem_flatten.1 h
  obtain ⟨j, _, rfl⟩ := List.mem_map.1 h1
  exact List.mem_of_mem_drop (List.mem_of_mem_take h2)
end Go.Z.Bit
namespace Go.Z
set_option maxRecDepth 8000
set_option linter.unusedVariables false
set_option linter.unusedSimpArgs false
set_option linter.unusedSectionVars false
open Go
theorem rsl_sub {ρ : Nat → Obj → Prop} {a ad : Option Addr} {n o k : Nat} {xs : List Value} (h : RSl ρ 1 a n xs) (hk : o + k ≤ n) (ha : 0 < k → ad = a.map (·.add (o * 1))) : RSl ρ 1 ad k ((xs.drop o).take k) := by
  rcases Nat.eq_zero_or_pos k with rfl | h0
  · rw [List.take_zero]; exact RSl.nil
  obtain ⟨h1, b, off, cs, T, fz, h2⟩ := h
  obtain ⟨k1, k2, k3⟩ := h2 (by omega)
  refine ⟨by rw [List.length_take, List.length_drop]; omega, b, off + o, cs, T, fz, fun _ => ⟨?_, k2, fun j v hj => ?_⟩⟩
  · rw [ha h0, k1]
    show some (Addr.add ⟨b, off, none⟩ (o * 1)) = _
    have : Addr.add ⟨b, off, none⟩ (o * 1) = ⟨b, off + o, none⟩ := by unfold Addr.add; split <;> simp_all
    rw [this]
  · rw [List.getElem?_take] at hj
    split at hj
    · rw [List.getElem?_drop] at hj
      rw [Nat.add_assoc]; exact k3 _ _ hj
    · cases hj
end Go.Z
namespace Go.Proofs.Ytkebblmmgcgjkaa
set_option maxRecDepth 8000
set_option linter.unusedVariables false
set_option linter.unusedSimpArgs false
set_option linter.unusedSectionVars false
open Go Go.Z Go.Z.Val Go.Z.Aig Go.Z.Bit

/-- the headers of cut parts -/
def Hds (la : Option Addr) (args : List (List Bool)) (hs : List Value) (k : Nat) : Prop := hs.length = k ∧ ∀ j (hj : j < args.length), j < k → ∃ ad c, hs[j]? = some (.slice ad args[j].length c) ∧ (0 < args[j].length → ad = la.map (·.add (offs args j * 1)))
theorem Hds.rows {ρ : Nat → Obj → Prop} {la oa : Option Addr} {args : List (List Bool)} {hs : List Value} {l : List Int} (h : Hds la args hs args.length) (hl : l.length = args.flatten.length) (hr : RSl ρ 1 la l.length (l.map encI)) (ho : RSl ρ 1 oa args.length hs) : RSl2 ρ oa ((cutL args l).map (·.map encI)) := by
  obtain ⟨h1, h2⟩ := h
  refine ⟨hs, ⟨by rw [List.length_map, cutL_len]; exact h1, fun j hj => ?_⟩, by rw [List.length_map, cutL_len]; exact ho⟩
  have hj' : j < args.length := by rw [List.length_map, cutL_len] at hj; exact hj
  obtain ⟨ad, c, e1, e2⟩ := h2 j hj' hj'
  have h3 := offs_le args (j + 1)
  rw [offs_succ hj'] at h3
  have hlen : ((l.drop (offs args j)).take args[j].length).length = args[j].length := by rw [List.length_take, List.length_drop]; omega
  refine ⟨ad, c, ?_, ?_⟩
  · rw [e1, List.getElem_map, cutL_at hj', List.length_map, hlen]
  · rw [List.getElem_map, cutL_at hj', List.length_map, hlen, List.map_take, List.map_drop]
    exact rsl_sub hr (by omega) e2

set_option maxHeartbeats 4000000 in
theorem bapplies_ok {ρ : Nat → Obj → Prop} {aa : Option Addr} {ac : Nat} {args : List (List Bool)} (op : Int) (hr : RSl2 ρ aa (args.map (·.map encB))) (hn : args.length ≤ 9223372036854775807) (hls : ∀ x ∈ args, x.length ≤ 9223372036854775807) :
    Con Try.prog ρ 5 #[.int .i64 op, .slice aa args.length ac] [] (fun u H => u = .bool true) := by
  obtain ⟨b1, o1, cs1, T1, fz1, hrd⟩ := brd2 hr
  refine con_intro Try.func5 Try.call5 rfl Try.ntmps5 rfl (L := [(0, _), (1, _)]) rfl fun w hh => ?_
  refine g_seq ?_
  refine g_region ?_
  refine g_pure (p_assign rfl) rfl ?_
  refine g_nil ?_
  refine g_qt ?_
  refine g_seq ?_
  refine g_seq ?_
  refine g_region ?_
  refine g_pure (p_move rfl) rfl ?_
  refine g_pure (p_len (by rfl) rfl) rfl ?_
  refine g_pure (p_gtr rfl rfl) rfl ?_
  refine g_nil ?_
  refine g_qt ?_
  refine g_ifd rfl (fun q => ?_) (fun q => ?_)
  · refine g_seq ?_
    refine g_region ?_
    refine g_call (Hin := []) (Hr := ?hr1) (R := ?rr1) rfl rfl rfl ?hin1 ?hc1 ?hk1
    case hin1 => repeat' (first | exact Cover.nil | exact Take.here | apply Cover.cons | apply Take.there)
    case hc1 => intro ρ' hρ hR; exact blives_ok
    rintro _ _ ⟨rfl, rfl⟩
    refine g_pure (p_assign rfl) rfl ?_
    refine g_nil ?_
    refine g_qt ?_
    refine g_ret ?_
    refine g_qt_ret ?_
    exact g_post (Ho := []) (rs := [.tmp 4]) rfl (.tmp rfl .nil) rfl .nil
  · have hn3 : args.length ≤ 3 := by omega
    refine g_skip ?_
    refine g_qt ?_
    refine g_seq ?_
    refine g_region ?_
    refine g_pure (p_assign rfl) rfl ?_
    refine g_nil ?_
    refine g_qt ?_
    refine g_seq ?_
    refine g_seq ?_
    refine g_region ?_
    refine g_pure (p_assign rfl) rfl ?_
    refine g_nil ?_
    refine g_qt ?_
    refine g_block ?_
    refine g_ownnil (e := 4) (size := 1) ?_
    refine g_loop (fun q : Nat × Option Addr × Nat => [(0, .int .i64 op), (1, .slice aa args.length ac), (5, .slice q.2.1 (args.take q.1).flatten.length q.2.2), (6, .int .i64 q.1)])
      (fun q => [OwnSl 4 1 q.2.1 (args.take q.1).flatten.length q.2.2 ((args.take q.1).flatten.map encB)]) (fun q => q.1 ≤ args.length ∧ offs args q.1 ≤ 18 * q.1 ∧ ∀ j (hj : j < args.length), j < q.1 → args[j].length ≤ 18) (fun q => args.length - q.1) (0, none, 0) ⟨Nat.zero_le _, by show (0 : Nat) ≤ _; omega, fun j _ h => absurd h (Nat.not_lt_zero j)⟩ (by (repeat (first | exact trivial | refine ⟨by rfl, ?_⟩)); done) (by repeat' (first | exact Cover.nil | exact Take.here | apply Cover.cons | apply Take.there)) ?_
    rintro ⟨k, ia, ic⟩ ⟨hk, ho18, h18⟩
    dsimp only at hk ho18 h18 ⊢
    refine g_seq ?_
    refine g_seq ?_
    refine g_region ?_
    refine g_pure (p_move rfl) rfl ?_
    refine g_pure (p_move rfl) rfl ?_
    refine g_pure (p_len (by rfl) rfl) rfl ?_
    refine g_pure (p_lss rfl rfl) rfl ?_
    refine g_nil ?_
    refine g_qt ?_
    refine g_ifd rfl (fun q2 => ?_) (fun q2 => ?_)
    · have hkl : k < args.length := by omega
      obtain ⟨r1, r2, r3⟩ := hrd (by omega)
      obtain ⟨ai, ci, e1, e2⟩ := r3 k hkl
      have hoff := offs_succ hkl
      refine g_skip ?_
      refine g_qt ?_
      refine g_seq ?_
      refine g_block ?_
      refine g_seq ?_
      refine g_seq ?_
      refine g_region ?_
      refine g_pure (p_move rfl) rfl ?_
      refine g_pure (p_move rfl) rfl ?_
      refine g_pure (p_indexAddr rfl rfl (by omega) (fun _ => r1)) rfl ?_
      refine g_pure (p_load (by rfl) rfl (Has.ro r2) e1) rfl ?_
      refine g_pure (p_len (by rfl) rfl) rfl ?_
      refine g_pure (p_gtr rfl rfl) rfl ?_
      refine g_nil ?_
      refine g_qt ?_
      refine g_ifd rfl (fun q3 => ?_) (fun q3 => ?_)
      · refine g_seq ?_
        refine g_region ?_
        refine g_call (Hin := []) (Hr := ?hr2) (R := ?rr2) rfl rfl rfl ?hin2 ?hc2 ?hk2
        case hin2 => repeat' (first | exact Cover.nil | exact Take.here | apply Cover.cons | apply Take.there)
        case hc2 => intro ρ' hρ hR; exact blives_ok
        rintro _ _ ⟨rfl, rfl⟩
        refine g_pure (p_assign rfl) rfl ?_
        refine g_nil ?_
        refine g_qt ?_
        refine g_ret ?_
        refine g_qt_ret ?_
        refine g_qb_ret ?_
        refine g_qt_ret ?_
        refine g_qn_ret ?_
        refine g_qb_ret ?_
        refine g_qt_ret ?_
        exact g_post (Ho := []) (rs := [.tmp 4]) rfl (.tmp rfl .nil) rfl .nil
      · have hk18 : args[k].length ≤ 18 := by omega
        have hf : (args.take (k + 1)).flatten = (args.take k).flatten ++ args[k] := by
          rw [List.take_add_one, List.getElem?_eq_getElem hkl, Option.toList_some, List.flatten_append]; simp
        have hok : (args.take k).flatten.length ≤ 18 * k := ho18
        have hnx : offs args (k + 1) ≤ 18 * (k + 1) := by omega
        have hall : ∀ j (hj : j < args.length), j < k + 1 → args[j].length ≤ 18 := fun j hj h => (if e : j = k then by subst e; exact hk18 else h18 j hj (by omega))
        rcases Nat.eq_zero_or_pos args[k].length with h0 | h0
        · have hnil : args[k] = [] := List.eq_nil_of_length_eq_zero h0
          rw [h0] at e1
          refine g_cap (e := 4) (size := 1) (a1 := ia) (k := (args.take k).flatten.length) (cap := ic) (xs := (args.take k).flatten.map encB) (by repeat' (first | exact Take.here | apply Take.there)) fun hcap _ => ?_
          refine g_skip ?_
          refine g_qt ?_
          refine g_region ?_
          refine g_pure (p_move rfl) rfl ?_
          refine g_pure (p_move rfl) rfl ?_
          refine g_pure (p_move rfl) rfl ?_
          refine g_pure (p_indexAddr rfl rfl (by omega) (fun _ => r1)) rfl ?_
          refine g_pure (p_load (by rfl) rfl (Has.ro r2) e1) rfl ?_
          refine g_eff (e_append0 rfl rfl hcap) rfl (fun _ _ => ?_)
          rintro ⟨rfl, rfl⟩
          refine g_pure (p_assign rfl) rfl ?_
          refine g_nil ?_
          refine g_qb ?_
          refine g_qt ?_
          refine g_region ?_
          refine g_pure (p_move rfl) rfl ?_
          first | refine g_pure (p_addi rfl rfl (by omega)) rfl ?_ | refine g_pure (p_add rfl rfl) rfl ?_
          refine g_pure (p_assign rfl) rfl ?_
          refine g_nil ?_
          refine g_qn ?_
          have e4 : (args.take k).flatten = (args.take (k + 1)).flatten := by rw [hf, hnil, List.append_nil]
          rw [e4]
          exact g_next (k + 1, ia, ic) (by (repeat (first | exact trivial | refine ⟨by rfl, ?_⟩)); done) (by repeat' (first | exact Cover.nil | exact Take.here | apply Cover.cons | apply Take.there)) ⟨by dsimp only; omega, hnx, hall⟩ (by dsimp only; omega)
        · obtain ⟨hel, bb, oo, cc, TT, zz, hb⟩ := e2
          obtain ⟨b1', b2', b3'⟩ := hb h0
          subst b1'
          have hsub : sub cc oo (args[k].length * 1) = some (args[k].map encB) := by
            have := sub_of (o := oo) (i := 0) (k := args[k].length) b3' h0 (by rw [List.length_map]; omega)
            rw [List.drop_zero, List.take_of_length_le (by rw [List.length_map]; omega)] at this
            rw [Nat.mul_one]; exact this
          have hone : one1 (args[k].map encB) = true := by unfold one1; rw [List.all_eq_true]; intro v hv; obtain ⟨y, _, rfl⟩ := List.mem_map.1 hv; rfl
          refine g_skip ?_
          refine g_qt ?_
          refine g_region ?_
          refine g_pure (p_move rfl) rfl ?_
          refine g_pure (p_move rfl) rfl ?_
          refine g_pure (p_move rfl) rfl ?_
          refine g_pure (p_indexAddr rfl rfl (by omega) (fun _ => r1)) rfl ?_
          refine g_pure (p_load (by rfl) rfl (Has.ro r2) e1) rfl ?_
          refine g_eff (e_append rfl rfl rfl rfl (Has.ro b2') hsub hone (by repeat' (first | exact Take.here | apply Take.there)) h0 (by dsimp only; omega) (by omega)) rfl (fun _ _ => ?_)
          rintro ⟨a41, c41, rfl, rfl⟩
          refine g_pure (p_assign rfl) rfl ?_
          refine g_nil ?_
          refine g_qb ?_
          refine g_qt ?_
          refine g_region ?_
          refine g_pure (p_move rfl) rfl ?_
          first | refine g_pure (p_addi rfl rfl (by omega)) rfl ?_ | refine g_pure (p_add rfl rfl) rfl ?_
          refine g_pure (p_assign rfl) rfl ?_
          refine g_nil ?_
          refine g_qn ?_
          have e4 : (args.take k).flatten.map encB ++ args[k].map encB = (args.take (k + 1)).flatten.map encB := by rw [hf, List.map_append]
          have e5 : (args.take k).flatten.length + args[k].length = (args.take (k + 1)).flatten.length := by rw [hf, List.length_append]
          rw [e4, e5]
          exact g_next (k + 1, a41, c41) (by (repeat (first | exact trivial | refine ⟨by rfl, ?_⟩)); done) (by repeat' (first | exact Cover.nil | exact Take.here | apply Cover.cons | apply Take.there)) ⟨by dsimp only; omega, hnx, hall⟩ (by dsimp only; omega)
    · have hke : k = args.length := by omega
      subst hke
      have hn54 : args.flatten.length ≤ 54 := by unfold offs at ho18; rw [List.take_of_length_le (Nat.le_refl _)] at ho18; omega
      rw [List.take_of_length_le (Nat.le_refl _)]
      have hall : ∀ x ∈ args, x.length ≤ 18 := fun x hx => by obtain ⟨j, hj, rfl⟩ := List.getElem_of_mem hx; exact h18 j hj hj
      obtain ⟨n, hnn⟩ : ∃ n, args.flatten.length = n := ⟨_, rfl⟩
      rw [hnn]
      refine g_exit ?_
      refine g_qt_exit ?_
      refine g_qn_exit ?_
      refine g_qb_exit ?_
      refine g_qt ?_
      refine g_seq ?_
      refine g_region ?_
      refine g_pure (p_move rfl) rfl ?_
      refine g_pure (p_len (by rfl) rfl) rfl ?_
      refine g_call (Hin := []) (Hr := ?hr3) (R := ?rr3) rfl rfl rfl ?hin3 ?hc3 ?hk3
      case hin3 => repeat' (first | exact Cover.nil | exact Take.here | apply Cover.cons | apply Take.there)
      case hc3 => intro ρ' hρ hR; exact inputs38_ok n (by omega)
      rintro _ _ ⟨p, la, lc, rfl, rfl⟩
      refine g_pure (p_move rfl) rfl ?_
      refine g_pure (p_extract rfl rfl) rfl ?_
      refine g_pure (p_extract rfl rfl) rfl ?_
      refine g_pure (p_assign rfl) rfl ?_
      refine g_pure (p_assign rfl) rfl ?_
      refine g_nil ?_
      refine g_qt ?_
      refine g_seq ?_
      refine g_seq ?_
      refine g_region ?_
      refine g_pure (p_move rfl) rfl ?_
      refine g_pure (p_eqnil (by rfl) rfl rfl) rfl ?_
      refine g_nil ?_
      refine g_qt ?_
      refine g_iff rfl ?_
      refine g_skip ?_
      refine g_qt ?_
      refine g_seq ?_
      refine g_region ?_
      refine g_pure (p_assign rfl) rfl ?_
      refine g_nil ?_
      refine g_qt ?_
      refine g_seq ?_
      refine g_region ?_
      refine g_pure (p_assign rfl) rfl ?_
      refine g_nil ?_
      refine g_qt ?_
      refine g_seq ?_
      refine g_seq ?_
      refine g_region ?_
      refine g_pure (p_assign rfl) rfl ?_
      refine g_nil ?_
      refine g_qt ?_
      refine g_block ?_
      refine g_ownnil (e := 26) (size := 1) ?_
      refine g_cap (e := 27) (size := 1) (a1 := la) (k := n) (cap := lc) (xs := (inL n).map encI) (by repeat' (first | exact Take.here | apply Take.there)) fun hcap _ => ?_
      have hw0 := S0_wf n (by omega)
      refine g_loop (fun q : Nat × List Value × Option Addr × Nat => [(0, .int .i64 op), (1, .slice aa args.length ac), (5, .slice ia n ic), (7, .pointer (some ⟨p, 0, none⟩)), (8, .slice la n lc), (9, .slice q.2.2.1 q.1 q.2.2.2), (10, .int .i64 (offs args q.1 : Nat)), (11, .int .i64 q.1)])
        (fun q => [OwnSl 26 1 q.2.2.1 q.1 q.2.2.2 q.2.1, OwnSl 27 1 la n lc ((inL n).map encI), OwnSl 4 1 ia n ic (args.flatten.map encB), Gr p (S0 n)]) (fun q => q.1 ≤ args.length ∧ Hds la args q.2.1 q.1) (fun q => args.length - q.1) (0, [], none, 0) ⟨Nat.zero_le _, rfl, fun j _ h => absurd h (Nat.not_lt_zero j)⟩ (by (repeat (first | exact trivial | refine ⟨by rfl, ?_⟩)); done) (by repeat' (first | exact Cover.nil | exact Take.here | apply Cover.cons | apply Take.there)) ?_
      rintro ⟨k, hs, oa, oc⟩ ⟨hk, hh1, hh2⟩
      dsimp only at hk hh1 hh2 ⊢
      refine g_seq ?_
      refine g_seq ?_
      refine g_region ?_
      refine g_pure (p_move rfl) rfl ?_
      refine g_pure (p_move rfl) rfl ?_
      refine g_pure (p_len (by rfl) rfl) rfl ?_
      refine g_pure (p_lss rfl rfl) rfl ?_
      refine g_nil ?_
      refine g_qt ?_
      refine g_ifd rfl (fun q4 => ?_) (fun q4 => ?_)
      · have hkl : k < args.length := by omega
        obtain ⟨r1, r2, r3⟩ := hrd (by omega)
        obtain ⟨ai, ci, e1, e2⟩ := r3 k hkl
        have hoff := offs_succ hkl
        have hof2 := offs_le args (k + 1)
        rw [hnn] at hof2
        refine g_skip ?_
        refine g_qt ?_
        refine g_seq ?_
        refine g_block ?_
        refine g_seq ?_
        refine g_region ?_
        refine g_pure (p_move rfl) rfl ?_
        refine g_pure (p_move rfl) rfl ?_
        refine g_pure (p_move rfl) rfl ?_
        refine g_pure (p_move rfl) rfl ?_
        refine g_pure (p_move rfl) rfl ?_
        refine g_pure (p_move rfl) rfl ?_
        refine g_pure (p_indexAddr rfl rfl (by omega) (fun _ => r1)) rfl ?_
        refine g_pure (p_load (by rfl) rfl (Has.ro r2) e1) rfl ?_
        refine g_pure (p_len (by rfl) rfl) rfl ?_
        first | refine g_pure (p_addi rfl rfl (by omega)) rfl ?_ | refine g_pure (p_add rfl rfl) rfl ?_
        refine g_pure (p_slicelh rfl rfl rfl (by omega) (by omega)) rfl ?_
        refine g_eff (e_bs (xs := [.tmp 66]) rfl rfl rfl (by rfl) (by rfl) rfl (by rfl)) rfl (fun _ _ => ?_)
        rintro ⟨b67, rfl, rfl⟩
        refine g_eff (e_appendO (by rfl) (by rfl) rfl rfl (by first | (apply Has.own; (repeat' (first | exact Take.here | apply Take.there)); done) | exact Has.ro (by assumption)) (by rfl) (by rfl) (by repeat' (first | exact Take.here | apply Take.there)) (by omega) (by first | omega | (dsimp only; omega) | (simp <;> omega)) (by omega)) rfl (fun _ _ => ?_)
        rintro ⟨a68, c68, rfl, rfl⟩
        refine g_pure (p_assign rfl) rfl ?_
        refine g_nil ?_
        refine g_qt ?_
        refine g_region ?_
        refine g_pure (p_move rfl) rfl ?_
        refine g_pure (p_move rfl) rfl ?_
        refine g_pure (p_move rfl) rfl ?_
        refine g_pure (p_indexAddr rfl rfl (by omega) (fun _ => r1)) rfl ?_
        refine g_pure (p_load (by rfl) rfl (Has.ro r2) e1) rfl ?_
        refine g_pure (p_len (by rfl) rfl) rfl ?_
        first | refine g_pure (p_addi rfl rfl (by omega)) rfl ?_ | refine g_pure (p_add rfl rfl) rfl ?_
        refine g_pure (p_assign rfl) rfl ?_
        refine g_nil ?_
        refine g_qb ?_
        refine g_qt ?_
        refine g_region ?_
        refine g_pure (p_move rfl) rfl ?_
        first | refine g_pure (p_addi rfl rfl (by omega)) rfl ?_ | refine g_pure (p_add rfl rfl) rfl ?_
        refine g_pure (p_assign rfl) rfl ?_
        refine g_nil ?_
        refine g_qn ?_
        have e6 : ((offs args k : Nat) : Int) + (args[k].length : Int) = ((offs args (k + 1) : Nat) : Int) := by omega
        rw [e6]
        refine g_next (k + 1, _, a68, c68) ⟨rfl, rfl, rfl, rfl, rfl, rfl, rfl, rfl, trivial⟩ (by repeat' (first | exact Cover.nil | exact Take.here | apply Cover.cons | apply Take.there)) ⟨by dsimp only; omega, by simp [hh1], fun j hj hjk => ?_⟩ (by dsimp only; omega)
        by_cases hjk' : j < k
        · obtain ⟨ad, c, f1, f2⟩ := hh2 j hj hjk'
          exact ⟨ad, c, by rw [List.getElem?_append_left (by omega)]; exact f1, f2⟩
        · obtain rfl : j = k := by omega
          refine ⟨_, _, by rw [List.getElem?_append_right (by omega), hh1, Nat.sub_self, List.getElem?_cons_zero]; congr 2; omega, fun hpos => ?_⟩
          rw [if_neg (by omega)]
          rfl
      · have hke : k = args.length := by omega
        subst hke
        refine g_exit ?_
        refine g_qt_exit ?_
        refine g_qn_exit ?_
        refine g_qb_exit ?_
        refine g_qt ?_
        refine g_seq ?_
        refine g_region ?_
        refine g_pure (p_move rfl) rfl ?_
        have hds : Hds la args hs args.length := ⟨hh1, hh2⟩
        have hil := inL_len n
        obtain ⟨hin1, hin2⟩ := den_ins (m := n) (by omega)
        have hin := hin2 args.flatten hnn
        have hS : (S0 n).length = n + 1 := S0_len n
        have hlens := cutL_lens (args := args) (l := inL n) (by omega)
        have happ : applyE op (cutL args (inL n)) = (formF op (args.map List.length)).2 := by rw [apply_form, hlens]
        have hcl := cutL_len args (inL n)
        have hb : ∀ l ∈ (cutL args (inL n)).flatten, has (S0 n) l := fun l hl => hin1 l (cutL_mem hl)
        have hll : ∀ l ∈ cutL args (inL n), l.length ≤ 1000000000 := fun l hl => by
          obtain ⟨j, hj, rfl⟩ := List.getElem_of_mem hl
          rw [cutL_at (by omega), List.length_take]
          have := hall _ (List.getElem_mem (show j < args.length by omega))
          omega
        have hcirc : (formF op (args.map List.length)).2 = 0 → operateF op (((cutL args (inL n)).headD []).map (litv (vals (S0 n) args.flatten))) (((cutL args (inL n)).getLastD []).map (litv (vals (S0 n) args.flatten))) = (dF op args).1 := fun h0 => by
          rw [headD_map (List.map (litv (vals (S0 n) args.flatten))), lastD_map (List.map (litv (vals (S0 n) args.flatten)))]
          show operateF op (((cutL args (inL n)).map (·.map (litv (vals (S0 n) args.flatten)))).headD []) (((cutL args (inL n)).map (·.map (litv (vals (S0 n) args.flatten)))).getLastD []) = _
          rw [cutL_map hin, circ_law h0]
        refine g_call (Hin := []) (Hr := ?hr4) (R := ?rr4) rfl rfl rfl ?hin4 ?hc4 ?hk4
        case hin4 => repeat' (first | exact Cover.nil | exact Take.here | apply Cover.cons | apply Take.there)
        case hc4 => intro ρ' hρ hR; exact glen_ok p (S0 n) (Take.ro (A := Gr p (S0 n)) (by repeat' (first | exact Take.here | apply Take.there)) hR)
        rintro _ _ ⟨rfl, rfl⟩
        refine g_pure (p_assign rfl) rfl ?_
        refine g_nil ?_
        refine g_qt ?_
        refine g_seq ?_
        by_cases h0 : (formF op (args.map List.length)).2 = 0
        · have hd2 : (dF op args).2 = 0 := by unfold dF; rw [if_pos h0]
          have hc := hcirc h0
          refine g_region ?_
          refine g_pure (p_move rfl) rfl ?_
          refine g_pure (p_move rfl) rfl ?_
          refine g_pure (p_move rfl) rfl ?_
          refine g_call (Hin := [Gr p (S0 n)]) (Hr := ?hr5) (R := ?rr5) rfl rfl rfl ?hin5 ?hc5 ?hk5
          case hin5 => repeat' (first | exact Cover.nil | exact Take.here | apply Cover.cons | apply Take.there)
          case hc5 => intro ρ' hρ hR; exact (by have := bapply_yes (ρ := ρ') (cl := oc) p op hw0 (by omega) (hds.rows (l := inL n) (by omega) (by rw [hil]; exact RSl.of_own (Take.ro (A := OwnSl 27 1 la n lc ((inL n).map encI)) (by repeat' (first | exact Take.here | apply Take.there)) hR)) (RSl.of_own (Take.ro (A := OwnSl 26 1 oa args.length oc hs) (by repeat' (first | exact Take.here | apply Take.there)) hR))) (by omega) hll hb (by rw [happ]; exact h0); rw [hcl] at this; exact this)
          rintro _ _ ⟨a2, c2, out, T, rfl, rfl, u, d⟩
          refine g_pure (p_move rfl) rfl ?_
          refine g_pure (p_extract rfl rfl) rfl ?_
          refine g_pure (p_extract rfl rfl) rfl ?_
          refine g_pure (p_assign rfl) rfl ?_
          refine g_pure (p_assign rfl) rfl ?_
          refine g_nil ?_
          refine g_qt ?_
          refine g_seq ?_
          refine g_region ?_
          refine g_pure (p_move rfl) rfl ?_
          refine g_pure (p_move rfl) rfl ?_
          refine g_call (Hin := []) (Hr := ?hr6) (R := ?rr6) rfl rfl rfl ?hin6 ?hc6 ?hk6
          case hin6 => repeat' (first | exact Cover.nil | exact Take.here | apply Cover.cons | apply Take.there)
          case hc6 => intro ρ' hρ hR; exact dapply38_ok op (hr.mono hρ) (by omega) (fun x hx => by have := hall x hx; omega)
          rintro _ _ ⟨wa, wc, rfl, rfl⟩
          have hout : out.length = (dF op args).1.length := by have := d.len args.flatten; rw [← this]; exact congrArg List.length hc
          have hev : eval1 T args.flatten out = ((dF op args).1, 0) := by rw [eval_up u hnn d]; exact congrArg (·, (0 : Int)) hc
          rw [hd2]
          refine g_pure (p_move rfl) rfl ?_
          refine g_pure (p_extract rfl rfl) rfl ?_
          refine g_pure (p_extract rfl rfl) rfl ?_
          refine g_pure (p_assign rfl) rfl ?_
          refine g_pure (p_assign rfl) rfl ?_
          refine g_nil ?_
          refine g_qt ?_
          refine g_seq ?_
          refine g_seq ?_
          refine g_region ?_
          refine g_pure (p_move rfl) rfl ?_
          refine g_pure (p_move rfl) rfl ?_
          refine g_pure (p_neqF rfl rfl rfl) rfl ?_
          refine g_pure (p_move rfl) rfl ?_
          refine g_yes rfl rfl ?_
          refine g_pure (p_move rfl) rfl ?_
          refine g_yes rfl rfl ?_
          refine g_pure (p_len (by rfl) rfl) rfl ?_
          refine g_yes rfl rfl ?_
          refine g_pure (p_move rfl) rfl ?_
          refine g_yes rfl rfl ?_
          refine g_pure (p_len (by rfl) rfl) rfl ?_
          refine g_yes rfl rfl ?_
          refine g_pure (p_neqF rfl rfl (by rw [hout])) rfl ?_
          first | refine g_pure (p_pickt rfl rfl) rfl ?_ | refine g_pure (p_pickf rfl rfl) rfl ?_
          refine g_nil ?_
          refine g_qt ?_
          refine g_iff rfl ?_
          refine g_skip ?_
          refine g_qt ?_
          refine g_seq ?_
          refine g_seq ?_
          refine g_region ?_
          refine g_pure (p_move rfl) rfl ?_
          refine g_pure (p_neqF rfl rfl rfl) rfl ?_
          refine g_nil ?_
          refine g_qt ?_
          refine g_iff rfl ?_
          refine g_skip ?_
          refine g_qt ?_
          refine g_seq ?_
          refine g_region ?_
          refine g_pure (p_move rfl) rfl ?_
          refine g_pure (p_move rfl) rfl ?_
          refine g_pure (p_move rfl) rfl ?_
          refine g_call (Hin := []) (Hr := ?hr7) (R := ?rr7) rfl rfl rfl ?hin7 ?hc7 ?hk7
          case hin7 => repeat' (first | exact Cover.nil | exact Take.here | apply Cover.cons | apply Take.there)
          case hc7 => intro ρ' hρ hR; exact (by have := eval_at (ρ := ρ') (p := p) (ia := ia) (ic := ic) (al := a2) (cl := c2) hev (by rw [hnn]; exact RSl.of_own (Take.ro (A := OwnSl 4 1 ia n ic (args.flatten.map encB)) (by repeat' (first | exact Take.here | apply Take.there)) hR)) (RSl.of_own (Take.ro (A := OwnSl 27 1 a2 out.length c2 (out.map encI)) (by repeat' (first | exact Take.here | apply Take.there)) hR)) (by have := offs_le args 0; rw [hout]; unfold dF; rw [if_pos h0, bitsR_len]; unfold outF; split <;> omega) (by omega) (i64_of u.wf d) (Take.ro (A := Gr p T) (by repeat' (first | exact Take.here | apply Take.there)) hR); rw [hnn] at this; exact this)
          rintro _ _ ⟨va, vc, rfl, rfl⟩
          refine g_pure (p_move rfl) rfl ?_
          refine g_pure (p_extract rfl rfl) rfl ?_
          refine g_pure (p_extract rfl rfl) rfl ?_
          refine g_pure (p_assign rfl) rfl ?_
          refine g_pure (p_assign rfl) rfl ?_
          refine g_nil ?_
          refine g_qt ?_
          refine g_seq ?_
          refine g_region ?_
          refine g_pure (p_move rfl) rfl ?_
          refine g_pure (p_eqlT rfl rfl rfl) rfl ?_
          refine g_pure (p_move rfl) rfl ?_
          refine g_yes rfl rfl ?_
          refine g_pure (p_move rfl) rfl ?_
          refine g_yes rfl rfl ?_
          refine g_pure (p_move rfl) rfl ?_
          refine g_yes rfl rfl ?_
          refine g_call (Hin := []) (Hr := ?hr8) (R := ?rr8) rfl rfl rfl ?hin8 ?hc8 ?hk8
          case hin8 => repeat' (first | exact Cover.nil | exact Take.here | apply Cover.cons | apply Take.there)
          case hc8 => intro ρ' hρ hR; exact bools38_ok (RSl.of_own (Take.ro (A := OwnSl 4 1 va (dF op args).1.length vc ((dF op args).1.map encB)) (by repeat' (first | exact Take.here | apply Take.there)) hR)) (RSl.of_own (Take.ro (A := OwnSl 4 1 wa (dF op args).1.length wc ((dF op args).1.map encB)) (by repeat' (first | exact Take.here | apply Take.there)) hR)) (by unfold dF; rw [if_pos h0, bitsR_len]; unfold outF; split <;> omega) rfl
          rintro _ _ ⟨rfl, rfl⟩
          first | refine g_pure (p_pickt rfl rfl) rfl ?_ | refine g_pure (p_pickf rfl rfl) rfl ?_
          refine g_pure (p_move rfl) rfl ?_
          refine g_yes rfl rfl ?_
          refine g_call (Hin := []) (Hr := ?hr9) (R := ?rr9) rfl rfl rfl ?hin9 ?hc9 ?hk9
          case hin9 => repeat' (first | exact Cover.nil | exact Take.here | apply Cover.cons | apply Take.there)
          case hc9 => intro ρ' hρ hR; exact blives_ok
          rintro _ _ ⟨rfl, rfl⟩
          first | refine g_pure (p_pickt rfl rfl) rfl ?_ | refine g_pure (p_pickf rfl rfl) rfl ?_
          refine g_pure (p_assign rfl) rfl ?_
          refine g_nil ?_
          refine g_qt ?_
          refine g_ret ?_
          exact g_post (Ho := []) (rs := [.tmp 4]) rfl (.tmp rfl .nil) rfl .nil
        · have hd : dF op args = ([], (formF op (args.map List.length)).2) := by unfold dF; rw [if_neg h0]
          refine g_region ?_
          refine g_pure (p_move rfl) rfl ?_
          refine g_pure (p_move rfl) rfl ?_
          refine g_pure (p_move rfl) rfl ?_
          refine g_call (Hin := [Gr p (S0 n)]) (Hr := ?hr10) (R := ?rr10) rfl rfl rfl ?hin10 ?hc10 ?hk10
          case hin10 => repeat' (first | exact Cover.nil | exact Take.here | apply Cover.cons | apply Take.there)
          case hc10 => intro ρ' hρ hR; exact (by have := bapply_no (ρ := ρ') (cl := oc) p op hw0 (by omega) (hds.rows (l := inL n) (by omega) (by rw [hil]; exact RSl.of_own (Take.ro (A := OwnSl 27 1 la n lc ((inL n).map encI)) (by repeat' (first | exact Take.here | apply Take.there)) hR)) (RSl.of_own (Take.ro (A := OwnSl 26 1 oa args.length oc hs) (by repeat' (first | exact Take.here | apply Take.there)) hR))) (by omega) hll hb (by rw [happ]; exact h0); rw [hcl, happ] at this; exact this)
          rintro _ _ ⟨rfl, rfl⟩
          refine g_pure (p_move rfl) rfl ?_
          refine g_pure (p_extract rfl rfl) rfl ?_
          refine g_pure (p_extract rfl rfl) rfl ?_
          refine g_pure (p_assign rfl) rfl ?_
          refine g_pure (p_assign rfl) rfl ?_
          refine g_nil ?_
          refine g_qt ?_
          refine g_seq ?_
          refine g_region ?_
          refine g_pure (p_move rfl) rfl ?_
          refine g_pure (p_move rfl) rfl ?_
          refine g_call (Hin := []) (Hr := ?hr11) (R := ?rr11) rfl rfl rfl ?hin11 ?hc11 ?hk11
          case hin11 => repeat' (first | exact Cover.nil | exact Take.here | apply Cover.cons | apply Take.there)
          case hc11 => intro ρ' hρ hR; exact (by have := dapply38_ok (ρ := ρ') (ac := ac) op (hr.mono hρ) (by omega) (fun x hx => by have := hall x hx; omega); rw [hd] at this; exact this)
          rintro _ _ ⟨wa, wc, rfl, rfl⟩
          refine g_pure (p_move rfl) rfl ?_
          refine g_pure (p_extract rfl rfl) rfl ?_
          refine g_pure (p_extract rfl rfl) rfl ?_
          refine g_pure (p_assign rfl) rfl ?_
          refine g_pure (p_assign rfl) rfl ?_
          refine g_nil ?_
          refine g_qt ?_
          refine g_seq ?_
          refine g_seq ?_
          refine g_region ?_
          refine g_pure (p_move rfl) rfl ?_
          refine g_pure (p_move rfl) rfl ?_
          refine g_pure (p_neqF rfl rfl rfl) rfl ?_
          refine g_pure (p_move rfl) rfl ?_
          refine g_yes rfl rfl ?_
          refine g_pure (p_move rfl) rfl ?_
          refine g_yes rfl rfl ?_
          refine g_pure (p_len (by rfl) rfl) rfl ?_
          refine g_yes rfl rfl ?_
          refine g_pure (p_move rfl) rfl ?_
          refine g_yes rfl rfl ?_
          refine g_pure (p_len (by rfl) rfl) rfl ?_
          refine g_yes rfl rfl ?_
          refine g_pure (p_neqF rfl rfl rfl) rfl ?_
          first | refine g_pure (p_pickt rfl rfl) rfl ?_ | refine g_pure (p_pickf rfl rfl) rfl ?_
          refine g_nil ?_
          refine g_qt ?_
          refine g_iff rfl ?_
          refine g_skip ?_
          refine g_qt ?_
          refine g_seq ?_
          refine g_seq ?_
          refine g_region ?_
          refine g_pure (p_move rfl) rfl ?_
          refine g_pure (p_neqT rfl rfl h0) rfl ?_
          refine g_nil ?_
          refine g_qt ?_
          refine g_ift rfl ?_
          refine g_seq ?_
          refine g_region ?_
          refine g_pure (p_move rfl) rfl ?_
          refine g_call (Hin := []) (Hr := ?hr12) (R := ?rr12) rfl rfl rfl ?hin12 ?hc12 ?hk12
          case hin12 => repeat' (first | exact Cover.nil | exact Take.here | apply Cover.cons | apply Take.there)
          case hc12 => intro ρ' hρ hR; exact glen_ok p (S0 n) (Take.ro (A := Gr p (S0 n)) (by repeat' (first | exact Take.here | apply Take.there)) hR)
          rintro _ _ ⟨rfl, rfl⟩
          refine g_pure (p_move rfl) rfl ?_
          refine g_pure (p_eqlT rfl rfl rfl) rfl ?_
          refine g_pure (p_move rfl) rfl ?_
          refine g_yes rfl rfl ?_
          refine g_call (Hin := []) (Hr := ?hr13) (R := ?rr13) rfl rfl rfl ?hin13 ?hc13 ?hk13
          case hin13 => repeat' (first | exact Cover.nil | exact Take.here | apply Cover.cons | apply Take.there)
          case hc13 => intro ρ' hρ hR; exact blives_ok
          rintro _ _ ⟨rfl, rfl⟩
          first | refine g_pure (p_pickt rfl rfl) rfl ?_ | refine g_pure (p_pickf rfl rfl) rfl ?_
          refine g_pure (p_assign rfl) rfl ?_
          refine g_nil ?_
          refine g_qt ?_
          refine g_ret ?_
          refine g_qt_ret ?_
          exact g_post (Ho := []) (rs := [.tmp 4]) rfl (.tmp rfl .nil) rfl .nil
end Go.Proofs.Ytkebblmmgcgjkaa
