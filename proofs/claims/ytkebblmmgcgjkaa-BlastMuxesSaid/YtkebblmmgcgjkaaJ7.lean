/- Chapter 38: growing and joining slices; the operators, rooms, attempts. Conditions: none. -/
import Derived.Test.YtkebblmmgcgjkaaJ6
namespace Go.Z
set_option maxRecDepth 8000
set_option linter.unusedVariables false
set_option linter.unusedSimpArgs false
set_option linter.unusedSectionVars false
open Go
section
variable {P : Program} {n : Nat} {L : Fr} {H H' : List Assn} {M : Mx}
variable {dd : Option Tmp} {ty t : TypeId} {ps : String} {af : Array Edge} {gd : Option (Nat × Bool)} {x y : Operand}
theorem p_cap {len cap : Nat} {e : TypeId} {ad : Option Addr} {yt : Ty} [ht : TyC P t yt] (hd : yt.d = .slice e) (h1 : ev L x = some (.slice ad len cap)) :
    Pur P M n L H ⟨dd, .call ⟨.builtin .cap, #[x], #[t]⟩, ty, ps, af, gd⟩ (.int .i64 cap) := fun a w ha _ => by
  simp [execOp, resolve, invoke, builtin, Builtin.cap_, ha.ev h1, ht.run_u, hd, goInt]
theorem run_append_made {w : World} (t tx ty e : TypeId) (i : TypeInfo) (z : Value) (ht : P.underlying t = some (.slice e)) (hx : P.underlying tx = some (.int .i64)) (hi : P.info? e = some i) (hz : i.zero = some z) (hs : i.size ≠ 0)
    (m : Nat) (h0 : 0 < m) (h63 : (m : Int) ≤ 9223372036854775807) (h48 : m * i.bytes ≤ 281474976710656) :
    (Builtin.append_ #[t, tx] ty #[.slice none 0 0, .int .i64 m]).run P w =
      .ok (.slice (some ⟨w.heap.size, 0, none⟩) m (grownCap w m 0 e)) (w.drew.alloc (.cells (Builtin.zeroCells z.cells m ++ Builtin.zeroCells z.cells (grownCap w m 0 e - m)) e)) := by
  have hm : m ≠ 0 := by omega
  have h63' : ¬ (9223372036854775807 < (m : Int)) := by omega
  have h48' : ¬ (281474976710656 < Builtin.nextslicecap m 0 * i.bytes) := by rw [nextslicecap_zero h0]; omega
  have hw : IntKind.i64.wrap (m : Int) = m := i64_in (by omega) (by omega)
  have hb : ¬ (281474976710656 < (m : Int) * (i.bytes : Int)) := by rw [← Int.natCast_mul]; omega
  have hneg : ¬ ((m : Int) < 0) := by omega
  have hms : m * i.size ≠ 0 := Nat.mul_ne_zero hm hs
  simp [hms, Builtin.append_, run_underlying ht, run_underlying hx, sizeOf, typeInfo, zeroValue, hi, hz, hm, hw, hb, hneg, h63', h48', Question.forced, run_firstCells_none, newRow, grownCap, asInt, asIntOf, hs]
theorem e_made {e : TypeId} {ye : Ty} {tx : TypeId} {yx : Ty} {m : Nat} [hsl : SlC P t e ye] [hx : TyC P tx yx] (hxd : yx.d = .int .i64) (hz : ye.zero.cells.size = ye.size) (hs0 : Nat.blt 0 ye.size = true)
    (h1 : ev L x = some (.slice none 0 0)) (h2 : ev L y = some (.int .i64 m)) (h0 : 0 < m) (hb : m * ye.bytes ≤ 140737488355328) (h63 : m ≤ 9223372036854775807) :
    Eff P M n L H ⟨dd, .call ⟨.builtin .append, #[x, y], #[t, tx]⟩, ty, ps, af, gd⟩ (fun v H2 => ∃ a2 c2 zs, v = .slice a2 m c2 ∧ H2 = OwnSl e ye.size a2 m c2 zs :: H) :=
  Eff.of_run fun a w ha hm => by
    obtain ⟨yt, ht, hd⟩ := hsl.t
    have he := hsl.e
    have hs0' : 0 < ye.size := by simpa using hs0
    obtain ⟨i, hri, hib, his, hi, hiz⟩ := he.run_info
    have ht' : P.underlying t = some (.slice e) := by rw [ht.u, hd]
    have hx' : P.underlying tx = some (.int .i64) := by rw [hx.u, hxd]
    have hr := run_append_made (P := P) (w := w) t tx ty e i ye.zero ht' hx' hi hiz (by omega) m h0 (by omega) (by rw [hib]; omega)
    have hexec : ∀ (r : Result Value), (Builtin.append_ #[t, tx] ty #[.slice none 0 0, .int .i64 m]).run P w = r →
        (execOp a.eval ⟨dd, .call ⟨.builtin .append, #[x, y], #[t, tx]⟩, ty, ps, af, gd⟩).run P w = r.andThen fun v w => .ok (.value v) w := fun r hr => by
      simp [execOp, resolve, invoke, builtin, ha.ev h1, ha.ev h2, hr]
    refine ⟨_, _, _, hexec _ hr, ⟨_, _, (Builtin.zeroCells ye.zero.cells m).toList, rfl, rfl⟩, ?_⟩
    have := (hm.drawn (w.drawn + 1)).alloc (.cells ((Builtin.zeroCells ye.zero.cells m).toList ++ (Builtin.zeroCells ye.zero.cells (grownCap w m 0 e - m)).toList).toArray e (0, 0))
    have hge := grownCap_ge w m 0 e
    have hcm : grownCap w m 0 e ≤ maxLen := grownCap_le_maxLen w m 0 e (by simp only [maxLen]; omega)
    have hw := this.weaken (B := OwnSl e ye.size (some ⟨w.heap.size, 0, none⟩) m (grownCap w m 0 e) (Builtin.zeroCells ye.zero.cells m).toList) (fun kk hk => by
      have e1 : kk = one w.heap.size _ := hk
      have hl1 : (Builtin.zeroCells ye.zero.cells m).toList.length = m * ye.size := by rw [Array.length_toList, size_zeroCells, hz]
      rw [e1]
      refine ⟨hl1, .inr ⟨_, _, rfl, hge, hcm, ?_, ?_, rfl⟩⟩
      · rw [List.length_append, hl1, Array.length_toList, size_zeroCells, hz, ← Nat.add_mul]; congr 1; omega
      · rw [← hl1]; exact List.take_left)
    have e9 : ((Builtin.zeroCells ye.zero.cells m).toList ++ (Builtin.zeroCells ye.zero.cells (grownCap w m 0 e - m)).toList).toArray = Builtin.zeroCells ye.zero.cells m ++ Builtin.zeroCells ye.zero.cells (grownCap w m 0 e - m) := by
      apply Array.ext'; simp
    rw [e9] at hw
    exact hw
end
end Go.Z
namespace Go.Proofs.Ytkebblmmgcgjkaa
set_option maxRecDepth 8000
set_option linter.unusedVariables false
set_option linter.unusedSimpArgs false
set_option linter.unusedSectionVars false
open Go Go.Z Go.Z.Aig Go.Z.Bit

theorem grow_ok {ρ : Nat → Obj → Prop} (m : Nat) (hm : m ≤ 1000000000000) : Con Try.prog ρ 90 #[.slice none 0 0, .int .i64 m] [] (fun v H => ∃ a c, v = .slice a 0 c ∧ H = [OwnSl 27 1 a 0 c []]) := by
  refine con_intro Try.func90 Try.call90 rfl Try.ntmps90 rfl (L := [(0, _), (1, _)]) rfl fun w hh => ?_
  refine g_seq ?_
  refine g_region ?_
  refine g_pure (p_assign rfl) rfl ?_
  refine g_nil ?_
  refine g_qt ?_
  refine g_seq ?_
  refine g_seq ?_
  refine g_region ?_
  refine g_pure (p_move rfl) rfl ?_
  refine g_pure (p_lss rfl rfl) rfl ?_
  refine g_nil ?_
  refine g_qt ?_
  refine g_iff rfl ?_
  refine g_skip ?_
  refine g_qt ?_
  refine g_seq ?_
  refine g_seq ?_
  refine g_region ?_
  refine g_pure (p_move rfl) rfl ?_
  refine g_pure (p_move rfl) rfl ?_
  refine g_pure (p_cap (by rfl) rfl) rfl ?_
  refine g_pure (p_move rfl) rfl ?_
  refine g_pure (p_len (by rfl) rfl) rfl ?_
  first | refine g_pure (p_subi rfl rfl (by omega)) rfl ?_ | refine g_pure (p_sub rfl rfl) rfl ?_
  first | refine g_pure (p_subi rfl rfl (by omega)) rfl ?_ | refine g_pure (p_sub rfl rfl) rfl ?_
  refine g_pure (p_assign rfl) rfl ?_
  refine g_nil ?_
  refine g_qt ?_
  refine g_seq ?_
  refine g_region ?_
  refine g_pure (p_move rfl) rfl ?_
  refine g_pure (p_gtr rfl rfl) rfl ?_
  refine g_nil ?_
  refine g_qt ?_
  rcases Nat.eq_zero_or_pos m with rfl | h0
  · refine g_ownnil (e := 27) (size := 1) ?_
    refine g_iff rfl ?_
    refine g_skip ?_
    refine g_qt ?_
    refine g_seq ?_
    refine g_region ?_
    refine g_pure (p_move rfl) rfl ?_
    refine g_pure (p_assign rfl) rfl ?_
    refine g_nil ?_
    refine g_qt ?_
    refine g_ret ?_
    exact g_post (rs := [.tmp 4]) rfl (.tmp rfl .nil) ⟨none, 0, rfl, rfl⟩ (by repeat' (first | exact Cover.nil | exact Take.here | apply Cover.cons | apply Take.there))
  · refine g_ifd rfl (fun h => ?_) (fun h => ?_)
    · refine g_region ?_
      refine g_pure (p_move rfl) rfl ?_
      refine g_pure (p_move rfl) rfl ?_
      refine g_pure (p_cap (by rfl) rfl) rfl ?_
      refine g_pure (p_sliceh rfl rfl (by omega)) rfl ?_
      refine g_pure (p_move rfl) rfl ?_
      refine g_eff (e_made (m := m) (by rfl) (by rfl) (by rfl) rfl (by show some (Value.int .i64 ((m : Int) - (((0 : Nat) : Int) - ((0 : Nat) : Int)))) = some _; congr 2) h0 (by dsimp only; omega) (by omega)) rfl (fun _ _ => ?_)
      rintro ⟨a22, c22, zs, rfl, rfl⟩
      refine g_pure (p_move rfl) rfl ?_
      refine g_pure (p_len (by rfl) rfl) rfl ?_
      refine g_pure (p_sliceh rfl rfl (by omega)) rfl ?_
      refine g_pure (p_assign rfl) rfl ?_
      refine g_nil ?_
      refine g_qt ?_
      refine g_seq ?_
      refine g_region ?_
      refine g_pure (p_move rfl) rfl ?_
      refine g_pure (p_assign rfl) rfl ?_
      refine g_nil ?_
      refine g_qt ?_
      refine g_ret ?_
      refine g_weak (A := OwnSl 27 1 a22 m c22 zs) (B := OwnSl 27 1 a22 0 c22 []) (by repeat' (first | exact Take.here | apply Take.there)) (fun h hh => by
        have := own_shrink (m := 0) (by omega) h hh
        rwa [Nat.zero_mul, List.take_zero] at this) ?_
      exact g_post (rs := [.tmp 4]) rfl (.tmp rfl .nil) ⟨a22, c22, rfl, rfl⟩ (by repeat' (first | exact Cover.nil | exact Take.here | apply Cover.cons | apply Take.there))
    · exact absurd h (by simp; omega)

theorem lrd2 {ρ : Nat → Obj → Prop} {al : Option Addr} {lss : List (List Int)} (h : RSl2 ρ al (lss.map (·.map encI))) : ∃ b off cs T fz, 0 < lss.length → al = some ⟨b, off, none⟩ ∧ ρ b (.cells (cs : List Value).toArray T fz) ∧ ∀ j (hj : j < lss.length), ∃ ai ci, cs[off + j * 1]? = some (.slice ai lss[j].length ci) ∧ RSl ρ 1 ai lss[j].length (lss[j].map encI) := by
  by_cases h0 : 0 < lss.length
  · obtain ⟨b, off, cs, T, fz, h1, h2, h3⟩ := h.at (by rw [List.length_map]; exact h0)
    refine ⟨b, off, cs, T, fz, fun _ => ⟨h1, h2, fun j hj => ?_⟩⟩
    obtain ⟨ai, ci, e1, e2⟩ := h3 j (by rw [List.length_map]; exact hj)
    rw [List.getElem_map, List.length_map] at e1
    rw [List.getElem_map, List.length_map] at e2
    exact ⟨ai, ci, by rw [Nat.mul_one]; exact e1, e2⟩
  · exact ⟨0, 0, [], 0, (0, 0), fun h => absurd h h0⟩
theorem flat_succ {lss : List (List Int)} {k : Nat} (hk : k < lss.length) : (lss.take (k + 1)).flatten = (lss.take k).flatten ++ lss[k] := by
  rw [List.take_add_one, List.getElem?_eq_getElem hk, Option.toList_some, List.flatten_append]; simp
theorem flat_le (lss : List (List Int)) (k : Nat) : (lss.take k).flatten.length ≤ lss.flatten.length := by
  conv => rhs; rw [← List.take_append_drop k lss, List.flatten_append, List.length_append]
  omega

theorem concat_ok {ρ : Nat → Obj → Prop} {al : Option Addr} {cl : Nat} {lss : List (List Int)} (hr : RSl2 ρ al (lss.map (·.map encI))) (h1 : lss.flatten.length ≤ 1000000000000) (h2 : lss.length ≤ 1000000000000) :
    Con Try.prog ρ 62 #[.slice al lss.length cl] [] (fun v H => ∃ a c, v = .slice a lss.flatten.length c ∧ H = [OwnSl 27 1 a lss.flatten.length c (lss.flatten.map encI)]) := by
  obtain ⟨b1, o1, cs1, T1, fz1, hrd⟩ := lrd2 hr
  refine con_intro Try.func62 Try.call62 rfl Try.ntmps62 rfl (L := [(0, _)]) rfl fun w hh => ?_
  refine g_seq ?_
  refine g_region ?_
  refine g_pure (p_assign rfl) rfl ?_
  refine g_nil ?_
  refine g_qt ?_
  refine g_seq ?_
  refine g_region ?_
  refine g_pure (p_assign rfl) rfl ?_
  refine g_nil ?_
  refine g_qt ?_
  refine g_seq ?_
  refine g_seq ?_
  refine g_region ?_
  refine g_pure (p_move rfl) rfl ?_
  refine g_pure (p_len (by rfl) rfl) rfl ?_
  refine g_pure (p_move rfl) rfl ?_
  refine g_nil ?_
  refine g_qt ?_
  refine g_block ?_
  refine g_loop (fun k : Nat => [(0, .slice al lss.length cl), (3, .int .i64 ((lss.take k).flatten.length : Int)), (9, .slice al lss.length cl), (10, .int .i64 lss.length), (11, .int .i64 k)])
    (fun _ => []) (fun k => k ≤ lss.length) (fun k => lss.length - k) 0 (Nat.zero_le _) (by (repeat (first | exact trivial | refine ⟨by rfl, ?_⟩)); done) .nil fun k hk => ?_
  refine g_seq ?_
  refine g_region ?_
  refine g_pure (p_lss rfl rfl) rfl ?_
  refine g_nil ?_
  refine g_qt ?_
  refine g_seq ?_
  refine g_ifd rfl (fun q => ?_) (fun q => ?_)
  · have hkl : k < lss.length := by omega
    obtain ⟨r1, r2, r3⟩ := hrd (by omega)
    obtain ⟨ai, ci, e1, e2⟩ := r3 k hkl
    have hf := flat_succ hkl
    have hfl := flat_le lss (k + 1)
    have hfl' := congrArg List.length hf
    rw [List.length_append] at hfl'
    refine g_skip ?_
    refine g_qt ?_
    refine g_seq ?_
    refine g_block ?_
    refine g_seq ?_
    refine g_region ?_
    refine g_pure (p_indexAddr rfl rfl (by omega) (fun _ => r1)) rfl ?_
    refine g_pure (p_load (by rfl) rfl (Has.ro r2) e1) rfl ?_
    refine g_pure (p_assign rfl) rfl ?_
    refine g_nil ?_
    refine g_qt ?_
    refine g_seq ?_
    refine g_region ?_
    refine g_pure (p_move rfl) rfl ?_
    refine g_pure (p_move rfl) rfl ?_
    refine g_pure (p_len (by rfl) rfl) rfl ?_
    first | refine g_pure (p_addi rfl rfl (by omega)) rfl ?_ | refine g_pure (p_add rfl rfl) rfl ?_
    refine g_pure (p_assign rfl) rfl ?_
    refine g_nil ?_
    refine g_qt ?_
    refine g_seq ?_
    refine g_region ?_
    refine g_pure (p_move rfl) rfl ?_
    refine g_pure (p_lss rfl rfl) rfl ?_
    refine g_nil ?_
    refine g_qt ?_
    refine g_ifd rfl (fun q2 => ?_) (fun q2 => ?_)
    · exfalso; omega
    · refine g_skip ?_
      refine g_qb ?_
      refine g_qt ?_
      refine g_region ?_
      first | refine g_pure (p_addi rfl rfl (by omega)) rfl ?_ | refine g_pure (p_add rfl rfl) rfl ?_
      refine g_pure (p_move rfl) rfl ?_
      refine g_nil ?_
      refine g_qn ?_
      have e3 : (((lss.take k).flatten.length : Int) + (lss[k].length : Int)) = ((lss.take (k + 1)).flatten.length : Int) := by omega
      rw [e3]
      exact g_next (k + 1) (by (repeat (first | exact trivial | refine ⟨by rfl, ?_⟩)); done) .nil (by omega) (by omega)
  · have hke : k = lss.length := by omega
    subst hke
    rw [List.take_of_length_le (Nat.le_refl _)]
    refine g_exit ?_
    refine g_qt_exit ?_
    refine g_qn_exit ?_
    refine g_qb_exit ?_
    refine g_qt ?_
    refine g_seq ?_
    refine g_region ?_
    refine g_pure (p_move rfl) rfl ?_
    refine g_call (Hin := []) (Hr := ?hr1) (R := ?rr1) rfl rfl rfl ?hin1 ?hc1 ?hk1
    case hin1 => repeat' (first | exact Cover.nil | exact Take.here | apply Cover.cons | apply Take.there)
    case hc1 => intro ρ' hρ hR; exact grow_ok lss.flatten.length h1
    rintro _ _ ⟨ga, gc, rfl, rfl⟩
    refine g_pure (p_assign rfl) rfl ?_
    refine g_nil ?_
    refine g_qt ?_
    refine g_seq ?_
    refine g_seq ?_
    refine g_region ?_
    refine g_pure (p_move rfl) rfl ?_
    refine g_pure (p_len (by rfl) rfl) rfl ?_
    refine g_pure (p_move rfl) rfl ?_
    refine g_nil ?_
    refine g_qt ?_
    refine g_block ?_
    refine g_loop (fun q : Nat × Option Addr × Nat => [(0, .slice al lss.length cl), (6, .slice q.2.1 (lss.take q.1).flatten.length q.2.2), (25, .slice al lss.length cl), (26, .int .i64 lss.length), (27, .int .i64 q.1)])
      (fun q => [OwnSl 27 1 q.2.1 (lss.take q.1).flatten.length q.2.2 ((lss.take q.1).flatten.map encI)]) (fun q => q.1 ≤ lss.length) (fun q => lss.length - q.1) (0, ga, gc) (Nat.zero_le _) (by (repeat (first | exact trivial | refine ⟨by rfl, ?_⟩)); done) (by repeat' (first | exact Cover.nil | exact Take.here | apply Cover.cons | apply Take.there)) ?_
    rintro ⟨k, oa, oc⟩ hk
    dsimp only at hk ⊢
    refine g_seq ?_
    refine g_region ?_
    refine g_pure (p_lss rfl rfl) rfl ?_
    refine g_nil ?_
    refine g_qt ?_
    refine g_seq ?_
    refine g_ifd rfl (fun q3 => ?_) (fun q3 => ?_)
    · have hkl : k < lss.length := by omega
      obtain ⟨r1, r2, r3⟩ := hrd (by omega)
      obtain ⟨ai, ci, e1, e2⟩ := r3 k hkl
      have hf := flat_succ hkl
      have hfl := flat_le lss (k + 1)
      rw [hf, List.length_append] at hfl
      rcases Nat.eq_zero_or_pos lss[k].length with h0 | h0
      · have hn : lss[k] = [] := List.eq_nil_of_length_eq_zero h0
        rw [h0] at e1
        refine g_cap (e := 27) (size := 1) (a1 := oa) (k := (lss.take k).flatten.length) (cap := oc) (xs := (lss.take k).flatten.map encI) (by repeat' (first | exact Take.here | apply Take.there)) fun hcap _ => ?_
        refine g_skip ?_
        refine g_qt ?_
        refine g_seq ?_
        refine g_block ?_
        refine g_seq ?_
        refine g_region ?_
        refine g_pure (p_indexAddr rfl rfl (by omega) (fun _ => r1)) rfl ?_
        refine g_pure (p_load (by rfl) rfl (Has.ro r2) e1) rfl ?_
        refine g_pure (p_assign rfl) rfl ?_
        refine g_nil ?_
        refine g_qt ?_
        refine g_region ?_
        refine g_pure (p_move rfl) rfl ?_
        refine g_pure (p_move rfl) rfl ?_
        refine g_eff (e_append0 rfl rfl hcap) rfl (fun _ _ => ?_)
        rintro ⟨rfl, rfl⟩
        refine g_pure (p_assign rfl) rfl ?_
        refine g_nil ?_
        refine g_qb ?_
        refine g_qt ?_
        refine g_region ?_
        first | refine g_pure (p_addi rfl rfl (by omega)) rfl ?_ | refine g_pure (p_add rfl rfl) rfl ?_
        refine g_pure (p_move rfl) rfl ?_
        refine g_nil ?_
        refine g_qn ?_
        have e4 : (lss.take k).flatten = (lss.take (k + 1)).flatten := by rw [hf, hn, List.append_nil]
        rw [e4]
        exact g_next (k + 1, oa, oc) (by (repeat (first | exact trivial | refine ⟨by rfl, ?_⟩)); done) (by repeat' (first | exact Cover.nil | exact Take.here | apply Cover.cons | apply Take.there)) (by dsimp only; omega) (by dsimp only; omega)
      · obtain ⟨hel, bb, oo, cc, TT, zz, hb⟩ := e2
        obtain ⟨b1', b2', b3'⟩ := hb h0
        subst b1'
        have hsub : sub cc oo (lss[k].length * 1) = some (lss[k].map encI) := by
          have := sub_of (o := oo) (i := 0) (k := lss[k].length) b3' h0 (by rw [List.length_map]; omega)
          rw [List.drop_zero, List.take_of_length_le (by rw [List.length_map]; omega)] at this
          rw [Nat.mul_one]; exact this
        have hone : one1 (lss[k].map encI) = true := by unfold one1; rw [List.all_eq_true]; intro v hv; obtain ⟨y, _, rfl⟩ := List.mem_map.1 hv; rfl
        refine g_skip ?_
        refine g_qt ?_
        refine g_seq ?_
        refine g_block ?_
        refine g_seq ?_
        refine g_region ?_
        refine g_pure (p_indexAddr rfl rfl (by omega) (fun _ => r1)) rfl ?_
        refine g_pure (p_load (by rfl) rfl (Has.ro r2) e1) rfl ?_
        refine g_pure (p_assign rfl) rfl ?_
        refine g_nil ?_
        refine g_qt ?_
        refine g_region ?_
        refine g_pure (p_move rfl) rfl ?_
        refine g_pure (p_move rfl) rfl ?_
        refine g_eff (e_append rfl rfl rfl rfl (Has.ro b2') hsub hone (by repeat' (first | exact Take.here | apply Take.there)) h0 (by dsimp only; omega) (by omega)) rfl (fun _ _ => ?_)
        rintro ⟨a33, c33, rfl, rfl⟩
        refine g_pure (p_assign rfl) rfl ?_
        refine g_nil ?_
        refine g_qb ?_
        refine g_qt ?_
        refine g_region ?_
        first | refine g_pure (p_addi rfl rfl (by omega)) rfl ?_ | refine g_pure (p_add rfl rfl) rfl ?_
        refine g_pure (p_move rfl) rfl ?_
        refine g_nil ?_
        refine g_qn ?_
        have e4 : (lss.take k).flatten.map encI ++ lss[k].map encI = (lss.take (k + 1)).flatten.map encI := by rw [hf, List.map_append]
        have e5 : (lss.take k).flatten.length + lss[k].length = (lss.take (k + 1)).flatten.length := by rw [hf, List.length_append]
        rw [e4, e5]
        exact g_next (k + 1, a33, c33) (by (repeat (first | exact trivial | refine ⟨by rfl, ?_⟩)); done) (by repeat' (first | exact Cover.nil | exact Take.here | apply Cover.cons | apply Take.there)) (by dsimp only; omega) (by dsimp only; omega)
    · have hke : k = lss.length := by omega
      subst hke
      rw [List.take_of_length_le (Nat.le_refl _)]
      refine g_exit ?_
      refine g_qt_exit ?_
      refine g_qn_exit ?_
      refine g_qb_exit ?_
      refine g_qt ?_
      refine g_seq ?_
      refine g_region ?_
      refine g_pure (p_move rfl) rfl ?_
      refine g_pure (p_assign rfl) rfl ?_
      refine g_nil ?_
      refine g_qt ?_
      refine g_ret ?_
      exact g_post (rs := [.tmp 2]) rfl (.tmp rfl .nil) ⟨oa, oc, rfl, rfl⟩ (by repeat' (first | exact Cover.nil | exact Take.here | apply Cover.cons | apply Take.there))

theorem belong1_ok {ρ : Nat → Obj → Prop} (p b2 : Nat) (S : St) (a : Int) (ha : I64 a) (hg : Ro ρ (Gr p S)) (hb : ρ b2 (.cells [.pointer (some ⟨p, 0, none⟩)].toArray 24 (0, 0))) :
    Con Try.prog ρ 89 #[.int .i64 a, .pointer (some ⟨b2, 0, none⟩)] [] (fun v H => v = .bool (!hasB S a) ∧ H = []) := by
  obtain ⟨av, cv, ai, ci, mb, kn, hp, hv, hi, hm, hw, hk⟩ := gr_ro hg
  have hlim := hw.lim
  unfold I64 at ha
  refine con_intro Try.func89 Try.call89 rfl Try.ntmps89 rfl (L := [(0, _), (1, _)]) rfl fun w hh => ?_
  refine g_seq ?_
  refine g_region ?_
  refine g_pure (p_assign rfl) rfl ?_
  refine g_nil ?_
  refine g_qt ?_
  refine g_seq ?_
  refine g_region ?_
  refine g_pure (p_move rfl) rfl ?_
  refine g_pure (p_lss rfl rfl) rfl ?_
  refine g_pure (p_move rfl) rfl ?_
  refine g_splitd rfl rfl (fun h1 => ?_) (fun h1 => ?_)
  · refine g_no rfl rfl rfl rfl ?_
    refine g_no rfl rfl rfl rfl ?_
    refine g_no rfl rfl rfl rfl ?_
    refine g_no rfl rfl rfl rfl ?_
    refine g_no rfl rfl rfl rfl ?_
    first | refine g_pure (p_pickt rfl rfl) rfl ?_ | refine g_pure (p_pickf rfl rfl) rfl ?_
    refine g_pure (p_assign rfl) rfl ?_
    refine g_nil ?_
    refine g_qt ?_
    refine g_ret ?_
    refine g_post (rs := [.tmp 3]) rfl (.tmp rfl .nil) ⟨?_, rfl⟩ .nil
    show Value.bool _ = Value.bool _
    congr 1
    unfold hasB; simp; omega
  · refine g_yes rfl rfl ?_
    refine g_pure (p_move rfl) rfl ?_
    refine g_yes rfl rfl ?_
    first | refine g_pure (p_quon rfl rfl (by omega) (by omega)) rfl ?_ | refine g_pure (p_quoi rfl rfl (by omega) (by omega)) rfl ?_ | refine g_pure (p_quo rfl rfl (by omega)) rfl ?_
    refine g_yes rfl rfl ?_
    refine g_pure (p_load (by rfl) rfl (by first | (apply Has.own; (repeat' (first | exact Take.here | apply Take.there)); done) | exact Has.ro (by assumption)) (by first | rfl | assumption)) rfl ?_
    refine g_yes rfl rfl ?_
    refine g_call (Hin := []) (Hr := ?hr2) (R := ?rr2) rfl rfl rfl ?hin2 ?hc2 ?hk2
    case hin2 => repeat' (first | exact Cover.nil | exact Take.here | apply Cover.cons | apply Take.there)
    case hc2 => intro ρ' hρ hR; exact glen_ok p S (hg.mono hρ)
    rintro _ _ ⟨rfl, rfl⟩
    refine g_yes rfl rfl ?_
    refine g_pure (p_geq rfl rfl) rfl ?_
    first | refine g_pure (p_pickt rfl rfl) rfl ?_ | refine g_pure (p_pickf rfl rfl) rfl ?_
    refine g_pure (p_assign rfl) rfl ?_
    refine g_nil ?_
    refine g_qt ?_
    refine g_ret ?_
    refine g_post (rs := [.tmp 3]) rfl (.tmp rfl .nil) ⟨?_, rfl⟩ .nil
    show Value.bool _ = Value.bool _
    congr 1
    unfold hasB
    by_cases h2 : (S.length : Int) ≤ a / 2 <;> simp [h2] <;> omega
theorem belong_ok {ρ : Nat → Obj → Prop} {p : Nat} {S : St} {al : Option Addr} {cl : Nat} {ls : List Int} (hl : RSl ρ 1 al ls.length (ls.map encI)) (hlen : ls.length ≤ 9223372036854775807) (hr : ∀ l ∈ ls, I64 l) (hg : Ro ρ (Gr p S)) :
    Con Try.prog ρ 61 #[.pointer (some ⟨p, 0, none⟩), .slice al ls.length cl] [] (fun v H => v = .bool (ls.all (hasB S)) ∧ H = []) := by
  refine con_intro Try.func61 Try.call61 rfl Try.ntmps61 rfl (L := [(0, _), (1, _)]) rfl fun w hh => ?_
  refine g_seq ?_
  refine g_region ?_
  refine g_eff (e_box rfl (by rfl)) rfl (fun _ _ => ?_)
  rintro ⟨b2, rfl, rfl⟩
  refine g_pure (p_assign rfl) rfl ?_
  refine g_nil ?_
  refine g_qt ?_
  refine g_seq ?_
  refine g_region ?_
  refine g_pure (p_move rfl) rfl ?_
  refine g_pure (p_makeFunc rfl rfl) rfl ?_
  refine g_call (Hin := []) (Hr := ?hr3) (R := ?rr3) rfl rfl rfl ?hin3 ?hc3 ?hk3
  case hin3 => repeat' (first | exact Cover.nil | exact Take.here | apply Cover.cons | apply Take.there)
  case hc3 => intro ρ' hρ hR; exact contains_ok al cl ls (hl.mono hρ) hlen 89 #[.pointer (some ⟨b2, 0, none⟩)] (fun a => !hasB S a) (fun l h1 ρ2 h2 => belong1_ok p b2 S l (hr l h1) (hg.mono fun b o h => h2 _ _ (hρ _ _ h)) (h2 _ _ hR.1.blk))
  rintro _ _ ⟨rfl, rfl⟩
  refine g_pure (p_not rfl) rfl ?_
  refine g_pure (p_assign rfl) rfl ?_
  refine g_nil ?_
  refine g_qt ?_
  refine g_ret ?_
  refine g_post (rs := [.tmp 4]) rfl (.tmp rfl .nil) ⟨?_, rfl⟩ .nil
  show Value.bool _ = Value.bool _
  congr 1
  rw [Bool.eq_iff_iff]
  simp [List.all_eq_true]
end Go.Proofs.Ytkebblmmgcgjkaa
