/- Chapter 4: the search for components: all that is reached from a vertex. Conditions: none. -/
import Derived.Test.YtmefecnjliadaaaNk
import Derived.Test.YtmefecnjliadaaaNl
namespace Go.Z.Gr
set_option maxRecDepth 8000
set_option linter.unusedVariables false
set_option linter.unusedSimpArgs false
set_option linter.unusedSectionVars false
open Go Go.Z Go.Z.Gra
def flatF (G : List Fr4) : List Value := G.flatMap fun g => [eN g.1, eN g.2.1]
theorem flatF_len (G : List Fr4) : (flatF G).length = G.length * 2 := by
  unfold flatF
  induction G with
  | nil => rfl
  | cons e E ih => rw [List.flatMap_cons, List.length_append, ih]; simp; omega
theorem flatF_snoc (G : List Fr4) (g : Fr4) : flatF (G ++ [g]) = flatF G ++ [eN g.1, eN g.2.1] := by simp [flatF]
/-- the last frame's cells -/
theorem top_cells {cur : List Value} {G : List Fr4} {g : Fr4} (h : cur.take ((G.length + 1) * 2) = flatF (G ++ [g])) {o : Nat} (ho : o = 0 + (((G.length + 1 : Nat) : Int) - 1).toNat * 2) : cur[o + 0]? = some (.int .i64 (g.1 : Int)) ∧ cur[o + 1]? = some (.int .i64 (g.2.1 : Int)) ∧ o + 1 < cur.length ∧ o = G.length * 2 := by
  have ho' : o = G.length * 2 := by rw [ho]; omega
  have hk : ∀ j, j < 2 → cur[o + j]? = (flatF (G ++ [g]))[o + j]? := fun j hj => by
    rw [← h, List.getElem?_take, if_pos (by omega)]
  have h0 : (flatF (G ++ [g]))[o + 0]? = some (.int .i64 (g.1 : Int)) := by
    rw [flatF_snoc, List.getElem?_append_right (by rw [flatF_len]; omega), flatF_len, ho']; simp [eN]
  have h1 : (flatF (G ++ [g]))[o + 1]? = some (.int .i64 (g.2.1 : Int)) := by
    rw [flatF_snoc, List.getElem?_append_right (by rw [flatF_len]; omega), flatF_len, ho', show G.length * 2 + 1 - G.length * 2 = 1 by omega]; rfl
  have e1 := (hk 1 (by omega)).trans h1
  exact ⟨(hk 0 (by omega)).trans h0, e1, (List.getElem?_eq_some_iff.1 e1).1, ho'⟩
theorem top_next {cur : List Value} {G : List Fr4} {v i : Nat} {r : List Nat} (h : cur.take ((G.length + 1) * 2) = flatF (G ++ [(v, i, r)])) {o : Nat} (ho : o = 0 + (((G.length + 1 : Nat) : Int) - 1).toNat * 2) : (cur.set (o + 1) (.int .i64 ((i : Int) + 1))).take ((G.length + 1) * 2) = flatF (G ++ [(v, i + 1, r)]) := by
  have ho' : o = G.length * 2 := by rw [ho]; omega
  rw [List.take_set, h, flatF_snoc, flatF_snoc, List.set_append_right _ _ (by rw [flatF_len]; omega), flatF_len, ho', show G.length * 2 + 1 - G.length * 2 = 1 by omega]
  rfl
theorem top_drop {cur : List Value} {G : List Fr4} {g : Fr4} (h : cur.take ((G.length + 1) * 2) = flatF (G ++ [g])) : cur.take (G.length * 2) = flatF G := by
  have := congrArg (List.take (G.length * 2)) h
  rw [List.take_take, Nat.min_eq_left (by omega), flatF_snoc, List.take_left' (flatF_len G)] at this
  exact this
theorem lo_id (t : Tj) (v : Nat) : { t with lo := Gra.upd t.lo v (t.lo v) } = t := by rw [Gra.upd_id]
/-- leaving a vertex, both ways -/
theorem left_ok {n : Nat} {N : Nat → List Nat} {t : Tj} {G : List Fr4} {p ip v : Nat} {rp r : List Nat} (h : TI n N t (G ++ [(p, ip, rp)] ++ [(v, (N v).length, r)])) (hX : XI n t) {t1 : Tj} (ht : t1 = if t.lo v = t.ix v then t.close ((G ++ [(p, ip, rp)]).flatMap segF) (v :: r) else t) :
    (∃ r', TI n N { t1 with lo := Gra.upd t1.lo p (min (t1.lo p) (t1.lo v)) } (G ++ [(p, ip, r')])) ∧ XI n { t1 with lo := Gra.upd t1.lo p (min (t1.lo p) (t1.lo v)) } ∧ t1.ix = t.ix ∧ t1.lo = t.lo := by
  have hst := h.top.st
  by_cases hlo : t.lo v = t.ix v
  · rw [if_pos hlo] at ht
    subst ht
    have hk := TI.keep (G := G) (by rw [List.append_assoc] at h; exact h) hlo
    have e : ({ t.close ((G ++ [(p, ip, rp)]).flatMap segF) (v :: r) with lo := Gra.upd t.lo p (min (t.lo p) (t.lo v)) } : Tj) = t.close ((G ++ [(p, ip, rp)]).flatMap segF) (v :: r) := by
      rw [hk, Gra.upd_id]; rfl
    refine ⟨⟨rp, ?_⟩, ⟨hX.1, ?_⟩, rfl, rfl⟩
    · show TI n N { t.close ((G ++ [(p, ip, rp)]).flatMap segF) (v :: r) with lo := Gra.upd t.lo p (min (t.lo p) (t.lo v)) } _
      rw [e]; exact h.close hlo
    · have h2 := hX.2
      rw [hst, List.length_append] at h2
      show t.pa + 1 + ((G ++ [(p, ip, rp)]).flatMap segF).length ≤ t.ct
      have : (segF (v, (N v).length, r)).length = r.length + 1 := rfl
      omega
  · rw [if_neg hlo] at ht
    subst ht
    exact ⟨⟨rp ++ v :: r, TI.up (by rw [List.append_assoc] at h; exact h) hlo⟩, hX, rfl, rfl⟩
end Go.Z.Gr
namespace Go.Proofs.Ytmefecnjliadaaa
set_option maxRecDepth 8000
set_option linter.unusedVariables false
set_option linter.unusedSimpArgs false
set_option linter.unusedSectionVars false
open Go Go.Z Go.Z.Gr Go.Z.Gra
theorem search_ok {ρ : Nat → Obj → Prop} (B : TjB) (hn : B.n ≤ 4096) (E : Ed) (ho : EdOk B.n E) (hlE : E.length ≤ 1000000) (hN : NbR ρ B.na B.n fun v => nbP E v) (t0 : Tj) (v0 : Nat) (hv0 : v0 < B.n) (hT0 : TI B.n (nbN E) t0 []) (hX0 : XI B.n t0) (h0 : t0.ix v0 = 0) :
    Con Try.prog ρ 35 #[.pointer (some ⟨B.t, 0, none⟩), .int .i64 v0] [TjA B t0] (fun rr H => rr = .tuple #[] ∧ ∃ t, H = [TjA B t] ∧ TI B.n (nbN E) t [] ∧ XI B.n t ∧ t.ix v0 ≠ 0 ∧ ∀ x, t0.ix x ≠ 0 → t.ix x ≠ 0) := by
  have hl0 := hT0.len
  have hc0 := hX0.1
  refine con_intro Try.func35 Try.call35 rfl Try.ntmps35 rfl (L := [(0, _), (1, _)]) rfl fun w hh => ?_
  refine g_seq ?_
  refine g_region ?_
  refine g_pure (p_move rfl) rfl ?_
  refine g_pure (p_move rfl) rfl ?_
  refine g_call (Hin := [TjA B t0]) (Hr := ?hr1) (R := ?rr1) rfl rfl rfl ?hin1 ?hc1 ?hk1
  case hin1 => repeat' (first | exact Cover.nil | exact Take.here | apply Cover.cons | apply Take.there)
  case hc1 => intro ρ' hρ hR; exact enter_ok B t0 v0 hv0 hn (by omega) (by omega)
  rintro _ _ ⟨rfl, rfl⟩
  refine g_eff (e_bs (xs := [.tmp 11]) rfl rfl rfl (by rfl) (by rfl) rfl (by rfl)) rfl (fun _ _ => ?_)
  rintro ⟨b12, rfl, rfl⟩
  refine g_pure (p_assign rfl) rfl ?_
  refine g_nil ?_
  refine g_qt ?_
  refine g_block ?_
  have hc1 := hX0.enter hv0 h0
  refine g_weak (B := OwnSl 74 2 (some ⟨b12, 0, none⟩) 1 1 (flatF [(v0, 0, [])])) .here (fun hh hb => own_of_blk (k := 1) (cap := 1) (size := 2) (by decide) (by decide) rfl hh hb) ?_
  refine g_loop (fun s : Tj × List Fr4 × Option Addr × Nat => [(0, .pointer (some ⟨B.t, 0, none⟩)), (4, .slice s.2.2.1 s.2.1.length s.2.2.2)])
    (fun s => [TjA B s.1, OwnSl 74 2 s.2.2.1 s.2.1.length s.2.2.2 (flatF s.2.1)]) (fun s => TI B.n (nbN E) s.1 s.2.1 ∧ XI B.n s.1 ∧ s.1.ix v0 ≠ 0 ∧ ∀ x, t0.ix x ≠ 0 → s.1.ix x ≠ 0) (fun s => msr B.n 1000000 (nbN E) s.1 s.2.1)
    (t0.enter v0, [(v0, 0, [])], some ⟨b12, 0, none⟩, 1) ⟨hT0.start hv0 h0, hc1, by show Gra.upd t0.ix v0 (t0.ct + 1) v0 ≠ 0; rw [Gra.upd_same]; omega, fun x hx => by
      show Gra.upd t0.ix v0 (t0.ct + 1) x ≠ 0
      unfold Gra.upd
      split
      · omega
      · exact hx⟩ (by (repeat (first | exact trivial | refine ⟨by rfl, ?_⟩)); done) (by repeat' (first | exact Cover.nil | exact Take.here | apply Cover.cons | apply Take.there)) ?_
  rintro ⟨t, G, fa, fc⟩ ⟨hT, hX, hv1, hv2⟩
  dsimp only at hT hX hv1 hv2 ⊢
  have hgl := hT.frs
  have htl := hT.len
  have hct := hX.1
  have hpa := hX.2
  refine g_seq ?_
  refine g_seq ?_
  refine g_region ?_
  refine g_pure (p_move rfl) rfl ?_
  refine g_pure (p_len (by rfl) rfl) rfl ?_
  refine g_pure (p_gtr rfl rfl) rfl ?_
  refine g_nil ?_
  refine g_qt ?_
  refine g_ifd rfl (fun p => ?_) (fun p => ?_)
  · obtain ⟨G', ⟨v, i, r⟩, rfl⟩ : ∃ G' g, G = G' ++ [g] := ⟨G.dropLast, G.getLast (fun e => by rw [e] at p; exact absurd p (by decide)), (List.dropLast_concat_getLast _).symm⟩
    have hg1 : (G' ++ [(v, i, r)]).length = G'.length + 1 := by simp
    have hfr := hT.fr (v, i, r) (by simp)
    have hdeg : i ≤ (nbP E v).length := by have := hfr.deg; rw [nbN_len] at this; exact this
    have hvst : v ∈ t.st := hT.mem (g := (v, i, r)) (by simp) List.mem_cons_self
    have hvn : v < B.n := hT.lt v (Nat.ne_of_gt (hT.pos v hvst))
    obtain ⟨bb, oo, cc, TT, zz, ai, ci, r1, r2, r3, r4⟩ := hN.at hvn
    have hll := nbP_len E v
    rw [hg1]
    refine g_own (.there .here) (fun _ h _ _ => absurd h (by omega)) ?_
    rintro g cur rfl q1 q2 q3 q4 q5
    obtain ⟨c0, c1, c2, c3⟩ := top_cells q4 rfl
    dsimp only at c0 c1
    refine g_open (.there .here) ?_
    rintro _ ⟨sa, sc, rfl⟩
    refine g_skip ?_
    refine g_qt ?_
    refine g_block ?_
    refine g_seq ?_
    refine g_region ?_
    refine g_pure (p_move rfl) rfl ?_
    refine g_pure (p_move rfl) rfl ?_
    refine g_pure (p_len (by rfl) rfl) rfl ?_
    first | refine g_pure (p_subi rfl rfl (by omega)) rfl ?_ | refine g_pure (p_sub rfl rfl) rfl ?_
    refine g_pure (p_indexAddr rfl rfl (by omega) (fun _ => rfl)) rfl ?_
    refine g_pure (p_assign rfl) rfl ?_
    refine g_nil ?_
    refine g_qt ?_
    refine g_seq ?_
    refine g_seq ?_
    refine m_begin0 (.fl 0 0 (.fl 1 0 (.fl 2 0 (.fl 3 1 (.fl 4 0 (.fl 5 0 (.fl 6 0 (.fl 7 1 (.fl 8 0 (.fl 9 0 (.fl 10 0 (.fl 11 1 (.fl 12 0 (.fl 13 1 (.fl 14 0 (.fl 15 0 .done)))))))))))))))) (by kernel_rfl) (by kernel_rfl) ?_
    refine m_float0 rfl (fun _ _ => p_move rfl) rfl ?_
    refine m_float0 rfl (fun _ _ => p_nilCheck rfl) rfl ?_
    refine m_float0 rfl (fun _ _ => p_fieldAddr rfl) rfl ?_
    refine m_float rfl (p_load (by rfl) rfl (Has.own (by repeat' (first | exact Take.here | apply Take.there))) c1) rfl ?_
    refine m_float0 rfl (fun _ _ => p_move rfl) rfl ?_
    refine m_float0 rfl (fun _ _ => p_nilCheck rfl) rfl ?_
    refine m_float0 rfl (fun _ _ => p_fieldAddr rfl) rfl ?_
    refine m_float rfl (p_load (by rfl) rfl (by first | (apply Has.own; (repeat' (first | exact Take.here | apply Take.there)); done) | exact Has.ro (by assumption)) (by first | rfl | assumption)) rfl ?_
    refine m_float0 rfl (fun _ _ => p_move rfl) rfl ?_
    refine m_float0 rfl (fun _ _ => p_nilCheck rfl) rfl ?_
    refine m_float0 rfl (fun _ _ => p_fieldAddr rfl) rfl ?_
    refine m_float rfl (p_load (by rfl) rfl (Has.own (by repeat' (first | exact Take.here | apply Take.there))) c0) rfl ?_
    refine m_float0 rfl (fun _ _ => p_indexAddr rfl rfl (by omega) (fun _ => r1)) rfl ?_
    refine m_float rfl (p_load (by rfl) rfl (Has.ro r2) r3) rfl ?_
    refine m_float0 rfl (fun _ _ => p_len (by rfl) rfl) rfl ?_
    refine m_float0 rfl (fun _ _ => p_lss rfl rfl) rfl ?_
    refine m_nil ?_
    refine g_qt ?_
    refine g_ifd rfl (fun y => ?_) (fun y => ?_)
    · have hi : i < (nbP E v).length := by omega
      obtain ⟨bl, ol, cl, Tl, zl, l1, l2, l3⟩ := rsl_at r4 (by omega)
      have l3 := l3 i hi
      have hin := nb_in ho hi
      have hNi := nbN_at hi
      have hiN : i < (nbN E v).length := by rw [nbN_len]; exact hi
      obtain ⟨u, hu⟩ : ∃ u : Nat, (nbP E v)[i] = u := ⟨(nbP E v)[i].toNat, by omega⟩
      rw [hu] at l3 hin hNi
      rw [Int.toNat_natCast] at hNi
      have hun : u < B.n := by omega
      refine g_seq ?_
      refine m_begin0 (.fl 0 0 (.fl 1 0 (.fl 2 0 (.fl 3 1 (.fl 4 0 (.fl 5 0 (.fl 6 0 (.fl 7 1 (.fl 8 0 (.fl 9 1 (.fl 10 0 (.fl 11 0 (.fl 12 0 (.fl 13 1 (.fl 14 0 (.fl 15 1 (.fl 16 0 .done))))))))))))))))) (by kernel_rfl) (by kernel_rfl) ?_
      refine m_float0 rfl (fun _ _ => p_move rfl) rfl ?_
      refine m_float0 rfl (fun _ _ => p_nilCheck rfl) rfl ?_
      refine m_float0 rfl (fun _ _ => p_fieldAddr rfl) rfl ?_
      refine m_float rfl (p_load (by rfl) rfl (by first | (apply Has.own; (repeat' (first | exact Take.here | apply Take.there)); done) | exact Has.ro (by assumption)) (by first | rfl | assumption)) rfl ?_
      refine m_float0 rfl (fun _ _ => p_move rfl) rfl ?_
      refine m_float0 rfl (fun _ _ => p_nilCheck rfl) rfl ?_
      refine m_float0 rfl (fun _ _ => p_fieldAddr rfl) rfl ?_
      refine m_float rfl (p_load (by rfl) rfl (Has.own (by repeat' (first | exact Take.here | apply Take.there))) c0) rfl ?_
      refine m_float0 rfl (fun _ _ => p_indexAddr rfl rfl (by omega) (fun _ => r1)) rfl ?_
      refine m_float rfl (p_load (by rfl) rfl (Has.ro r2) r3) rfl ?_
      refine m_float0 rfl (fun _ _ => p_move rfl) rfl ?_
      refine m_float0 rfl (fun _ _ => p_nilCheck rfl) rfl ?_
      refine m_float0 rfl (fun _ _ => p_fieldAddr rfl) rfl ?_
      refine m_float rfl (p_load (by rfl) rfl (Has.own (by repeat' (first | exact Take.here | apply Take.there))) c1) rfl ?_
      refine m_float0 rfl (fun _ _ => p_indexAddr rfl rfl (by omega) (fun _ => l1)) rfl ?_
      refine m_float rfl (p_load (by rfl) rfl (Has.ro l2) l3) rfl ?_
      refine m_float0 rfl (fun _ _ => p_assign rfl) rfl ?_
      refine m_nil ?_
      refine g_qt ?_
      refine g_seq ?_
      refine g_region ?_
      refine g_pure (p_move rfl) rfl ?_
      refine g_pure (p_nilCheck rfl) rfl ?_
      refine g_pure (p_fieldAddr rfl) rfl ?_
      refine g_pure (p_load (by rfl) rfl (Has.own (by repeat' (first | exact Take.here | apply Take.there))) c1) rfl ?_
      first | refine g_pure (p_addi rfl rfl (by omega)) rfl ?_ | refine g_pure (p_add rfl rfl) rfl ?_
      refine g_pure (p_nilCheck rfl) rfl ?_
      refine g_pure (p_fieldAddr rfl) rfl ?_
      refine g_eff0 (e_store1 (by rfl) rfl rfl rfl (by repeat' (first | exact Take.here | apply Take.there)) c2) (fun _ _ => ?_)
      rintro rfl
      refine g_nil ?_
      refine g_qt ?_
      refine g_seq ?_
      refine g_seq ?_
      refine g_region ?_
      refine g_pure (p_move rfl) rfl ?_
      refine g_pure (p_nilCheck rfl) rfl ?_
      refine g_pure (p_fieldAddr rfl) rfl ?_
      refine g_pure (p_load (by rfl) rfl (by first | (apply Has.own; (repeat' (first | exact Take.here | apply Take.there)); done) | exact Has.ro (by assumption)) (by first | rfl | assumption)) rfl ?_
      refine g_pure (p_move rfl) rfl ?_
      refine g_pure (p_indexAddr rfl rfl (by omega) (fun _ => rfl)) rfl ?_
      refine g_pure (p_load (by rfl) rfl (Has.own (by repeat' (first | exact Take.here | apply Take.there))) (cellsG_at' hun)) rfl ?_
      refine g_pure (p_eql rfl rfl) rfl ?_
      refine g_nil ?_
      refine g_qt ?_
      refine g_fold (k := G'.length + 1) (cap := fc) (size := 2) (xs := flatF (G' ++ [(v, i + 1, r)])) .here q1 q2 (by rw [List.length_set]; exact q3) (top_next q4 rfl) ?_
      refine g_ifd rfl (fun z => ?_) (fun z => ?_)
      · have hz : t.ix u = 0 := by omega
        refine g_close (K := TjK B t) ⟨sa, sc, rfl⟩ (by repeat' (first | exact Cover.nil | exact Take.here | apply Cover.cons | apply Take.there)) ?_
        refine g_region ?_
        refine g_pure (p_move rfl) rfl ?_
        refine g_pure (p_move rfl) rfl ?_
        refine g_pure (p_move rfl) rfl ?_
        refine g_call (Hin := [TjA B t]) (Hr := ?hr2) (R := ?rr2) rfl rfl rfl ?hin2 ?hc2 ?hk2
        case hin2 => repeat' (first | exact Cover.nil | exact Take.here | apply Cover.cons | apply Take.there)
        case hc2 => intro ρ' hρ hR; exact enter_ok B t u hun hn (by omega) (by omega)
        rintro _ _ ⟨rfl, rfl⟩
        refine g_eff (e_bs (xs := [.tmp 71]) rfl rfl rfl (by rfl) (by rfl) rfl (by rfl)) rfl (fun _ _ => ?_)
        rintro ⟨b72, rfl, rfl⟩
        refine g_eff (e_appendO (by rfl) (by rfl) rfl rfl (by first | (apply Has.own; (repeat' (first | exact Take.here | apply Take.there)); done) | exact Has.ro (by assumption)) (by rfl) (by rfl) (by repeat' (first | exact Take.here | apply Take.there)) (by omega) (by first | omega | (dsimp only; omega) | (simp <;> omega)) (by omega)) rfl (fun _ _ => ?_)
        rintro ⟨a73, c73, rfl, rfl⟩
        refine g_pure (p_assign rfl) rfl ?_
        refine g_nil ?_
        refine g_qt ?_
        refine g_exit ?_
        refine g_qt_exit ?_
        refine g_qb_exit ?_
        refine g_qn ?_
        have hT' := hT.new hiN (by rw [hNi]; exact hz) (by rw [hNi]; exact hun)
        rw [hNi] at hT'
        have hm := msr_new (n := B.n) (D := 1000000) (N := nbN E) (t := t) (G := G') (v := v) (i := i) (r := r) hun hz (by rw [nbN_len]; have := nbP_len E u; omega) hiN
        rw [show flatF (G' ++ [(v, i + 1, r)]) ++ [Value.int IntKind.i64 (u : Int), Value.int IntKind.i64 0] = flatF (G' ++ [(v, i + 1, r), (u, 0, [])]) by rw [show G' ++ [(v, i + 1, r), (u, 0, [])] = (G' ++ [(v, i + 1, r)]) ++ [(u, 0, [])] by simp, flatF_snoc _ (u, 0, [])]; rfl,
          show G'.length + 1 + 1 = (G' ++ [(v, i + 1, r), (u, 0, [])]).length by simp]
        exact g_next (t.enter u, G' ++ [(v, i + 1, r), (u, 0, [])], a73, c73) (by (repeat (first | exact trivial | refine ⟨by rfl, ?_⟩)); done) (by repeat' (first | exact Cover.nil | exact Take.here | apply Cover.cons | apply Take.there)) ⟨hT', hX.enter hun hz, by show Gra.upd t.ix u (t.ct + 1) v0 ≠ 0; unfold Gra.upd; split; omega; exact hv1, fun x hx => by show Gra.upd t.ix u (t.ct + 1) x ≠ 0; unfold Gra.upd; split; omega; exact hv2 x hx⟩ hm
      · have hz : t.ix u ≠ 0 := by omega
        have hg2 : G'.length + 1 = (G' ++ [(v, i + 1, r)]).length := by simp
        refine g_seq ?_
        refine g_region ?_
        refine g_pure (p_move rfl) rfl ?_
        refine g_pure (p_nilCheck rfl) rfl ?_
        refine g_pure (p_fieldAddr rfl) rfl ?_
        refine g_pure (p_load (by rfl) rfl (by first | (apply Has.own; (repeat' (first | exact Take.here | apply Take.there)); done) | exact Has.ro (by assumption)) (by first | rfl | assumption)) rfl ?_
        refine g_pure (p_move rfl) rfl ?_
        refine g_pure (p_indexAddr rfl rfl (by omega) (fun _ => rfl)) rfl ?_
        refine g_pure (p_load (by rfl) rfl (Has.own (by repeat' (first | exact Take.here | apply Take.there))) (cellsH_at hun)) rfl ?_
        refine g_nil ?_
        refine g_qt ?_
        refine g_own .here (fun _ h _ _ => absurd h (by omega)) ?_
        rintro g1 cur1 hg1' s1 s2 s3 s4 s5
        cases hg1'
        obtain ⟨d0, -, -, -⟩ := top_cells s4 rfl
        dsimp only at d0
        cases hon : t.on u with
        | true =>
          have hE := hT.edge hiN (by rw [hNi]; exact hz) (m := min (t.lo v) (t.ix u)) (by rw [hNi, if_pos hon])
          have hmn : min (t.lo v : Int) (t.ix u : Int) = ((min (t.lo v) (t.ix u) : Nat) : Int) := by omega
          have hset := cellsG_upd (n := B.n) (g := t.lo) (u := v) (x := min (t.lo v) (t.ix u))
          rw [← hmn] at hset
          refine g_ift rfl ?_
          refine m_begin0 (.fl 0 0 (.fl 1 0 (.fl 2 0 (.fl 3 1 (.fl 4 0 (.fl 5 0 (.fl 6 0 (.fl 7 1 (.fl 8 0 (.fl 9 0 (.fl 10 0 (.fl 11 1 (.fl 12 0 (.fl 13 0 (.fl 14 0 (.fl 15 1 (.fl 16 0 (.fl 17 1 (.fl 18 0 (.fl 19 0 (.fl 20 0 (.fl 21 1 (.fl 22 0 (.fl 23 0 (.fl 24 1 (.fl 25 0 (.fl 26 0 (.ef 27 .done)))))))))))))))))))))))))))) (by kernel_rfl) (by kernel_rfl) ?_
          refine m_float0 rfl (fun _ _ => p_move rfl) rfl ?_
          refine m_float0 rfl (fun _ _ => p_nilCheck rfl) rfl ?_
          refine m_float0 rfl (fun _ _ => p_fieldAddr rfl) rfl ?_
          refine m_float rfl (p_load (by rfl) rfl (by first | (apply Has.own; (repeat' (first | exact Take.here | apply Take.there)); done) | exact Has.ro (by assumption)) (by first | rfl | assumption)) rfl ?_
          refine m_float0 rfl (fun _ _ => p_move rfl) rfl ?_
          refine m_float0 rfl (fun _ _ => p_nilCheck rfl) rfl ?_
          refine m_float0 rfl (fun _ _ => p_fieldAddr rfl) rfl ?_
          refine m_float rfl (p_load (by rfl) rfl (Has.own (by repeat' (first | exact Take.here | apply Take.there))) d0) rfl ?_
          refine m_float0 rfl (fun _ _ => p_move rfl) rfl ?_
          refine m_float0 rfl (fun _ _ => p_nilCheck rfl) rfl ?_
          refine m_float0 rfl (fun _ _ => p_fieldAddr rfl) rfl ?_
          refine m_float rfl (p_load (by rfl) rfl (by first | (apply Has.own; (repeat' (first | exact Take.here | apply Take.there)); done) | exact Has.ro (by assumption)) (by first | rfl | assumption)) rfl ?_
          refine m_float0 rfl (fun _ _ => p_move rfl) rfl ?_
          refine m_float0 rfl (fun _ _ => p_nilCheck rfl) rfl ?_
          refine m_float0 rfl (fun _ _ => p_fieldAddr rfl) rfl ?_
          refine m_float rfl (p_load (by rfl) rfl (Has.own (by repeat' (first | exact Take.here | apply Take.there))) d0) rfl ?_
          refine m_float0 rfl (fun _ _ => p_indexAddr rfl rfl (by omega) (fun _ => rfl)) rfl ?_
          refine m_float rfl (p_load (by rfl) rfl (Has.own (by repeat' (first | exact Take.here | apply Take.there))) (cellsG_at' hvn)) rfl ?_
          refine m_float0 rfl (fun _ _ => p_move rfl) rfl ?_
          refine m_float0 rfl (fun _ _ => p_nilCheck rfl) rfl ?_
          refine m_float0 rfl (fun _ _ => p_fieldAddr rfl) rfl ?_
          refine m_float rfl (p_load (by rfl) rfl (by first | (apply Has.own; (repeat' (first | exact Take.here | apply Take.there)); done) | exact Has.ro (by assumption)) (by first | rfl | assumption)) rfl ?_
          refine m_float0 rfl (fun _ _ => p_move rfl) rfl ?_
          refine m_float0 rfl (fun _ _ => p_indexAddr rfl rfl (by omega) (fun _ => rfl)) rfl ?_
          refine m_float rfl (p_load (by rfl) rfl (Has.own (by repeat' (first | exact Take.here | apply Take.there))) (cellsG_at' hun)) rfl ?_
          refine m_float0 rfl (fun _ _ => p_min rfl rfl) rfl ?_
          refine m_float0 rfl (fun _ _ => p_indexAddr rfl rfl (by omega) (fun _ => rfl)) rfl ?_
          refine m_eff0 rfl (e_store1 (by rfl) rfl rfl rfl (by repeat' (first | exact Take.here | apply Take.there)) (by rw [cellsG_len, Int.toNat_natCast]; show 0 + v * 1 < B.n; omega)) (fun _ _ => ?_)
          rintro rfl
          refine ⟨.none (by kernel_rfl), ?_⟩
          refine m_nil ?_
          refine g_qt ?_
          refine g_exit ?_
          refine g_qt_exit ?_
          refine g_qb_exit ?_
          refine g_qn ?_
          refine g_weak (B := Blk B.l (.cells (cellsG B.n (Gra.upd t.lo v (min (t.lo v) (t.ix u)))).toArray 3 (0, 0))) (by repeat' (first | exact Take.here | apply Take.there)) (blk_eq hset) ?_
          refine g_close (K := TjK B { t with lo := Gra.upd t.lo v (min (t.lo v) (t.ix u)) }) ⟨sa, sc, rfl⟩ (by repeat' (first | exact Cover.nil | exact Take.here | apply Cover.cons | apply Take.there)) ?_
          refine g_fold (k := G'.length + 1) (cap := fc) (size := 2) (g := g) (cur := cur1) (xs := flatF (G' ++ [(v, i + 1, r)])) (by repeat' (first | exact Take.here | apply Take.there)) s1 s2 s3 s4 ?_
          rw [hg2]
          exact g_next ({ t with lo := Gra.upd t.lo v (min (t.lo v) (t.ix u)) }, G' ++ [(v, i + 1, r)], some ⟨g, 0, none⟩, fc) (by (repeat (first | exact trivial | refine ⟨by rfl, ?_⟩)); done) (by repeat' (first | exact Cover.nil | exact Take.here | apply Cover.cons | apply Take.there)) ⟨hE, hX, hv1, hv2⟩ (msr_edge hiN)
        | false =>
          have hE := hT.edge hiN (by rw [hNi]; exact hz) (m := t.lo v) (by rw [hNi, if_neg (by rw [hon]; simp)])
          refine g_iff rfl ?_
          refine g_skip ?_
          refine g_qt ?_
          refine g_exit ?_
          refine g_qt_exit ?_
          refine g_qb_exit ?_
          refine g_qn ?_
          rw [lo_id] at hE
          refine g_close (K := TjK B t) ⟨sa, sc, rfl⟩ (by repeat' (first | exact Cover.nil | exact Take.here | apply Cover.cons | apply Take.there)) ?_
          refine g_fold (k := G'.length + 1) (cap := fc) (size := 2) (g := g) (cur := cur1) (xs := flatF (G' ++ [(v, i + 1, r)])) (by repeat' (first | exact Take.here | apply Take.there)) s1 s2 s3 s4 ?_
          rw [hg2]
          exact g_next (t, G' ++ [(v, i + 1, r)], some ⟨g, 0, none⟩, fc) (by (repeat (first | exact trivial | refine ⟨by rfl, ?_⟩)); done) (by repeat' (first | exact Cover.nil | exact Take.here | apply Cover.cons | apply Take.there)) ⟨hE, hX, hv1, hv2⟩ (by have := msr_edge (n := B.n) (D := 1000000) (t := t) (lo := t.lo) (G := G') (r := r) hiN; exact this)
    · have hi : i = (nbP E v).length := by omega
      have hiN : i = (nbN E v).length := by rw [nbN_len]; exact hi
      have hst : t.st = G'.flatMap segF ++ (v :: r) := hT.top.st
      have hndv : (v :: r).Nodup := by have := hT.nd; rw [hst] at this; exact (List.nodup_append.1 this).2.1
      have hxv : ∀ x ∈ v :: r, x < B.n := fun x hx => hT.lt x (Nat.ne_of_gt (hT.pos x (by rw [hst]; exact List.mem_append_right _ hx)))
      refine g_skip ?_
      refine g_qt ?_
      refine g_seq ?_
      refine g_region ?_
      refine g_pure (p_move rfl) rfl ?_
      refine g_pure (p_nilCheck rfl) rfl ?_
      refine g_pure (p_fieldAddr rfl) rfl ?_
      refine g_pure (p_load (by rfl) rfl (Has.own (by repeat' (first | exact Take.here | apply Take.there))) c0) rfl ?_
      refine g_pure (p_assign rfl) rfl ?_
      refine g_nil ?_
      refine g_qt ?_
      refine g_seq ?_
      refine g_region ?_
      refine g_pure (p_move rfl) rfl ?_
      refine g_pure (p_move rfl) rfl ?_
      refine g_pure (p_len (by rfl) rfl) rfl ?_
      first | refine g_pure (p_subi rfl rfl (by omega)) rfl ?_ | refine g_pure (p_sub rfl rfl) rfl ?_
      refine g_pure (p_sliceh rfl rfl (by omega)) rfl ?_
      refine g_pure (p_assign rfl) rfl ?_
      refine g_nil ?_
      refine g_qt ?_
      refine g_seq ?_
      rw [show (((G'.length + 1 : Nat) : Int) - 1).toNat = G'.length by omega]
      refine g_close (K := TjK B t) ⟨sa, sc, rfl⟩ (by repeat' (first | exact Cover.nil | exact Take.here | apply Cover.cons | apply Take.there)) ?_
      refine g_region ?_
      refine g_pure (p_move rfl) rfl ?_
      refine g_pure (p_move rfl) rfl ?_
      refine g_call (Hin := [TjA B t]) (Hr := ?hr3) (R := ?rr3) rfl rfl rfl ?hin3 ?hc3 ?hk3
      case hin3 => repeat' (first | exact Cover.nil | exact Take.here | apply Cover.cons | apply Take.there)
      case hc3 => intro ρ' hρ hR; exact leave_ok B t v (G'.flatMap segF) r hst hndv hxv hn (by omega) (by omega)
      rintro _ _ ⟨rfl, rfl⟩
      refine g_nil ?_
      refine g_qt ?_
      refine g_seq ?_
      refine g_region ?_
      refine g_pure (p_move rfl) rfl ?_
      refine g_pure (p_len (by rfl) rfl) rfl ?_
      refine g_pure (p_gtr rfl rfl) rfl ?_
      refine g_nil ?_
      refine g_qt ?_
      rw [hiN] at hT
      have hmsr : ∀ (t1 : Tj) (G1 : List Fr4), t1.ix = t.ix → remF (nbN E) G1 = remF (nbN E) G' → msr B.n 1000000 (nbN E) t1 G1 < msr B.n 1000000 (nbN E) t (G' ++ [(v, i, r)]) := fun t1 G1 e1 e2 => by
        unfold msr
        rw [remF_snoc, e1, e2]; omega
      have q4' := top_drop q4
      rcases List.eq_nil_or_concat G' with hG | ⟨G'', ⟨p0, ip, rp⟩, hG⟩
      · subst hG
        have hlo := TI.below hT
        have hX' : XI B.n (t.close ([].flatMap segF) (v :: r)) := ⟨hX.1, by
          have h2 := hX.2
          rw [hst, List.length_append, List.length_cons] at h2
          show t.pa + 1 + (List.flatMap segF []).length ≤ t.ct
          omega⟩
        rw [if_pos hlo]
        refine g_ifd rfl (fun z => ?_) (fun z => ?_)
        · exact absurd z (by decide)
        · refine g_skip ?_
          refine g_qb ?_
          refine g_qn ?_
          refine g_fold (k := 0) (cap := fc) (size := 2) (g := g) (cur := cur) (xs := flatF []) (by repeat' (first | exact Take.here | apply Take.there)) (Nat.zero_le _) q2 q3 (by rw [Nat.zero_mul, List.take_zero]; rfl) ?_
          exact g_next (t.close ([].flatMap segF) (v :: r), [], some ⟨g, 0, none⟩, fc) (by (repeat (first | exact trivial | refine ⟨by rfl, ?_⟩)); done) (by repeat' (first | exact Cover.nil | exact Take.here | apply Cover.cons | apply Take.there)) ⟨TI.close (G := []) hT hlo, hX', hv1, hv2⟩ (hmsr _ _ rfl rfl)
      · have hG : G' = G'' ++ [(p0, ip, rp)] := by rw [hG]; simp
        subst hG
        have hl1 : (G'' ++ [(p0, ip, rp)]).length = G''.length + 1 := by simp
        generalize ht1 : (if t.lo v = t.ix v then t.close ((G'' ++ [(p0, ip, rp)]).flatMap segF) (v :: r) else t) = t1
        obtain ⟨⟨r', hL⟩, hXL, e1, e2⟩ := left_ok hT hX ht1.symm
        have hp0st : p0 ∈ t.st := by rw [hst, flat_snoc]; exact List.mem_append_left _ (List.mem_append_right _ List.mem_cons_self)
        have hp0 : p0 < B.n := hT.lt p0 (Nat.ne_of_gt (hT.pos p0 hp0st))
        rw [hl1] at q4'
        obtain ⟨d0, -, -, -⟩ := top_cells q4' rfl
        dsimp only at d0
        rw [hl1]
        have hmn : min (t1.lo p0 : Int) (t1.lo v : Int) = ((min (t1.lo p0) (t1.lo v) : Nat) : Int) := by omega
        have hset := cellsG_upd (n := B.n) (g := t1.lo) (u := p0) (x := min (t1.lo p0) (t1.lo v))
        rw [← hmn] at hset
        refine g_open .here ?_
        rintro _ ⟨sa2, sc2, rfl⟩
        refine g_ifd rfl (fun z => ?_) (fun z => ?_)
        · refine g_seq ?_
          refine g_region ?_
          refine g_pure (p_move rfl) rfl ?_
          refine g_pure (p_move rfl) rfl ?_
          refine g_pure (p_len (by rfl) rfl) rfl ?_
          first | refine g_pure (p_subi rfl rfl (by omega)) rfl ?_ | refine g_pure (p_sub rfl rfl) rfl ?_
          refine g_pure (p_indexAddr rfl rfl (by omega) (fun _ => rfl)) rfl ?_
          refine g_pure (p_fieldAddr rfl) rfl ?_
          refine g_pure (p_load (by rfl) rfl (Has.own (by repeat' (first | exact Take.here | apply Take.there))) d0) rfl ?_
          refine g_pure (p_assign rfl) rfl ?_
          refine g_nil ?_
          refine g_qt ?_
          refine m_begin0 (.fl 0 0 (.fl 1 0 (.fl 2 0 (.fl 3 1 (.fl 4 0 (.fl 5 0 (.fl 6 0 (.fl 7 0 (.fl 8 1 (.fl 9 0 (.fl 10 0 (.fl 11 1 (.fl 12 0 (.fl 13 0 (.fl 14 0 (.fl 15 1 (.fl 16 0 (.fl 17 0 (.fl 18 1 (.fl 19 0 (.fl 20 0 (.ef 21 .done)))))))))))))))))))))) (by kernel_rfl) (by kernel_rfl) ?_
          refine m_float0 rfl (fun _ _ => p_move rfl) rfl ?_
          refine m_float0 rfl (fun _ _ => p_nilCheck rfl) rfl ?_
          refine m_float0 rfl (fun _ _ => p_fieldAddr rfl) rfl ?_
          refine m_float rfl (p_load (by rfl) rfl (by first | (apply Has.own; (repeat' (first | exact Take.here | apply Take.there)); done) | exact Has.ro (by assumption)) (by first | rfl | assumption)) rfl ?_
          refine m_float0 rfl (fun _ _ => p_move rfl) rfl ?_
          refine m_float0 rfl (fun _ _ => p_move rfl) rfl ?_
          refine m_float0 rfl (fun _ _ => p_nilCheck rfl) rfl ?_
          refine m_float0 rfl (fun _ _ => p_fieldAddr rfl) rfl ?_
          refine m_float rfl (p_load (by rfl) rfl (by first | (apply Has.own; (repeat' (first | exact Take.here | apply Take.there)); done) | exact Has.ro (by assumption)) (by first | rfl | assumption)) rfl ?_
          refine m_float0 rfl (fun _ _ => p_move rfl) rfl ?_
          refine m_float0 rfl (fun _ _ => p_indexAddr rfl rfl (by omega) (fun _ => rfl)) rfl ?_
          refine m_float rfl (p_load (by rfl) rfl (Has.own (by repeat' (first | exact Take.here | apply Take.there))) (cellsG_at' hp0)) rfl ?_
          refine m_float0 rfl (fun _ _ => p_move rfl) rfl ?_
          refine m_float0 rfl (fun _ _ => p_nilCheck rfl) rfl ?_
          refine m_float0 rfl (fun _ _ => p_fieldAddr rfl) rfl ?_
          refine m_float rfl (p_load (by rfl) rfl (by first | (apply Has.own; (repeat' (first | exact Take.here | apply Take.there)); done) | exact Has.ro (by assumption)) (by first | rfl | assumption)) rfl ?_
          refine m_float0 rfl (fun _ _ => p_move rfl) rfl ?_
          refine m_float0 rfl (fun _ _ => p_indexAddr rfl rfl (by omega) (fun _ => rfl)) rfl ?_
          refine m_float rfl (p_load (by rfl) rfl (Has.own (by repeat' (first | exact Take.here | apply Take.there))) (cellsG_at' hvn)) rfl ?_
          refine m_float0 rfl (fun _ _ => p_min rfl rfl) rfl ?_
          refine m_float0 rfl (fun _ _ => p_indexAddr rfl rfl (by omega) (fun _ => rfl)) rfl ?_
          refine m_eff0 rfl (e_store1 (by rfl) rfl rfl rfl (by repeat' (first | exact Take.here | apply Take.there)) (by rw [cellsG_len, Int.toNat_natCast]; show 0 + p0 * 1 < B.n; omega)) (fun _ _ => ?_)
          rintro rfl
          refine ⟨.none (by kernel_rfl), ?_⟩
          refine m_nil ?_
          refine g_qb ?_
          refine g_qn ?_
          refine g_weak (B := Blk B.l (.cells (cellsG B.n (Gra.upd t1.lo p0 (min (t1.lo p0) (t1.lo v)))).toArray 3 (0, 0))) (by repeat' (first | exact Take.here | apply Take.there)) (blk_eq hset) ?_
          refine g_close (K := TjK B { t1 with lo := Gra.upd t1.lo p0 (min (t1.lo p0) (t1.lo v)) }) ⟨sa2, sc2, rfl⟩ (by repeat' (first | exact Cover.nil | exact Take.here | apply Cover.cons | apply Take.there)) ?_
          refine g_fold (k := G''.length + 1) (cap := fc) (size := 2) (g := g) (cur := cur) (xs := flatF (G'' ++ [(p0, ip, r')])) (by repeat' (first | exact Take.here | apply Take.there)) (by omega) q2 q3 (by rw [q4', flatF_snoc, flatF_snoc]) ?_
          rw [show G''.length + 1 = (G'' ++ [(p0, ip, r')]).length by simp]
          exact g_next ({ t1 with lo := Gra.upd t1.lo p0 (min (t1.lo p0) (t1.lo v)) }, G'' ++ [(p0, ip, r')], some ⟨g, 0, none⟩, fc) (by (repeat (first | exact trivial | refine ⟨by rfl, ?_⟩)); done) (by repeat' (first | exact Cover.nil | exact Take.here | apply Cover.cons | apply Take.there)) ⟨hL, hXL, by show t1.ix v0 ≠ 0; rw [e1]; exact hv1, fun x hx => by show t1.ix x ≠ 0; rw [e1]; exact hv2 x hx⟩ (hmsr _ _ e1 (by rw [remF_snoc, remF_snoc]))
        · exact absurd z (by omega)
  · have hGe : G = [] := List.eq_nil_of_length_eq_zero (by omega)
    subst hGe
    refine g_exit ?_
    refine g_qt_exit ?_
    refine g_qn_exit ?_
    refine g_qb_exit ?_
    exact g_postn (rs := []) rfl .nil ⟨rfl, t, rfl, hT, hX, hv1, hv2⟩ (by repeat' (first | exact Cover.nil | exact Take.here | apply Cover.cons | apply Take.there))
end Go.Proofs.Ytmefecnjliadaaa
