/- Chapter 4, the document: what is reached. Conditions: none. -/
import Derived.Test.YtmefecnjliadaaaNz
import Derived.Test.YtmefecnjliadaaaNh
namespace Go.Proofs.Ytmefecnjliadaaa
set_option maxRecDepth 8000
set_option linter.unusedVariables false
set_option linter.unusedSimpArgs false
set_option linter.unusedSectionVars false
open Go Go.Z Go.Z.Gr
theorem rreach_ok {ρ : Nat → Obj → Prop} (n : Nat) (hn : n ≤ 4096) (E : Ed) (ho : EdOk n E) (hlE : E.length ≤ 1000000) (na : Option Addr) (nc : Nat) (hN : NbR ρ na n fun v => tosP E v) (s : Int) (hs : 0 ≤ s ∧ s < n) :
    Con Try.prog ρ 34 #[.slice na n nc, .int .i64 s, .int .i64 0] [] (fun r H => ∃ a' c' out, r = .slice a' n c' ∧ H = [OwnSl 4 1 a' n c' (out.map encB)] ∧ RchOk E n s out) := by
  have hmt : ∀ {v w : Int}, w ∈ tosP E v ↔ (v, w) ∈ E := fun {v w} => by
    unfold tosP
    rw [List.mem_map]
    constructor
    · rintro ⟨⟨x, y⟩, h1, rfl⟩
      rw [List.mem_filter, decide_eq_true_eq] at h1
      obtain ⟨h1, rfl⟩ := h1
      exact h1
    · intro h
      exact ⟨(v, w), by rw [List.mem_filter, decide_eq_true_eq]; exact ⟨h, rfl⟩, rfl⟩
  refine con_intro Try.func34 Try.call34 rfl Try.ntmps34 rfl (L := [(0, _), (1, _), (2, _)]) rfl fun w hh => ?_
  refine g_seq ?_
  refine g_region ?_
  refine g_pure (p_assign rfl) rfl ?_
  refine g_nil ?_
  refine g_qt ?_
  refine g_seq ?_
  refine g_region ?_
  refine g_pure (p_move rfl) rfl ?_
  refine g_pure (p_len (by rfl) rfl) rfl ?_
  refine g_eff (e_make (by rfl) (by rfl) rfl rfl (by omega) (by first | omega | (dsimp only; omega)) (by omega)) rfl (fun _ _ => ?_)
  rintro ⟨b14, rfl, rfl⟩
  refine g_pure (p_assign rfl) rfl ?_
  refine g_nil ?_
  refine g_qt ?_
  refine g_seq ?_
  rw [Int.toNat_natCast]
  refine g_region ?_
  refine g_pure (p_move rfl) rfl ?_
  refine g_pure (p_move rfl) rfl ?_
  refine g_pure (p_indexAddr rfl rfl (by omega) (fun _ => rfl)) rfl ?_
  refine g_eff0 (e_store1 (by rfl) rfl rfl rfl (by repeat' (first | exact Take.here | apply Take.there)) (by rw [List.length_replicate]; show 0 + s.toNat * 1 < _; omega)) (fun _ _ => ?_)
  rintro rfl
  refine g_nil ?_
  refine g_qt ?_
  refine g_seq ?_
  refine g_region ?_
  refine g_pure (p_move rfl) rfl ?_
  refine g_eff (e_bs (xs := [.tmp 18]) rfl rfl rfl (by rfl) (by rfl) rfl (by rfl)) rfl (fun _ _ => ?_)
  rintro ⟨b19, rfl, rfl⟩
  refine g_pure (p_assign rfl) rfl ?_
  refine g_nil ?_
  refine g_qt ?_
  refine g_seq ?_
  refine g_block ?_
  refine g_weak (B := Blk b14 (.cells (((List.replicate n false).set s.toNat true).map encB).toArray 4 (0, 0))) (.there .here) (blk_eq (by rw [← setB_cell, ← repB])) ?_
  refine g_weak (B := OwnQ 3 (some ⟨b19, 0, none⟩) 1 1 ([s].map Z.encI)) (.there .here) (q_of_blk (by simp)) ?_
  refine g_loop (fun q : List Bool × List Int × Option Addr × Nat => [(0, .slice na n nc), (2, .int .i64 0), (7, .slice (some ⟨b14, 0, none⟩) n n), (8, .slice q.2.2.1 q.2.1.length q.2.2.2)])
    (fun q => [Blk b14 (.cells (q.1.map encB).toArray 4 (0, 0)), OwnQ 3 q.2.2.1 q.2.1.length q.2.2.2 (q.2.1.map Z.encI)]) (fun q => WI E n s q.1 q.2.1 ∧ leftW q.1 q.2.1 ≤ 2 * n + 1) (fun q => leftW q.1 q.2.1)
    ((List.replicate n false).set s.toNat true, [s], some ⟨b19, 0, none⟩, 1) ⟨WI.start hs ho, leftW_start n s⟩ (by (repeat (first | exact trivial | refine ⟨by rfl, ?_⟩)); done) (by repeat' (first | exact Cover.nil | exact Take.here | apply Cover.cons | apply Take.there)) ?_
  rintro ⟨seen, todo, ta, tc⟩ ⟨hW, hlw⟩
  dsimp only at hW hlw ⊢
  refine g_seq ?_
  refine g_seq ?_
  refine g_region ?_
  refine g_pure (p_move rfl) rfl ?_
  refine g_pure (p_len (by rfl) rfl) rfl ?_
  refine g_pure (p_gtr rfl rfl) rfl ?_
  refine g_nil ?_
  refine g_qt ?_
  refine g_ifd rfl (fun p => ?_) (fun p => ?_)
  · obtain ⟨v, r, rfl⟩ : ∃ v r, todo = v :: r := by
      cases todo with
      | nil => exact absurd p (by decide)
      | cons v r => exact ⟨v, r, rfl⟩
    obtain ⟨⟨v1, v2⟩, v3⟩ := hW.tin v List.mem_cons_self
    obtain ⟨vn, rfl⟩ : ∃ m : Nat, v = m := ⟨v.toNat, by omega⟩
    have hM0 := hW.pop (List.Perm.refl _)
    obtain ⟨bb, oo, cc, TT, zz, ai, ci, r1, r2, r3, r4⟩ := hN.at (v := vn) (by omega)
    have hll := tosP_len E vn
    have hlen1 : ((vn : Int) :: r).length = r.length + 1 := rfl
    refine g_openQ (.there .here) ?_
    rintro g off cur rfl q1 q2 q3 q4 q5
    have hq0 : cur[off + (0 : Int).toNat * 1]? = some (.int .i64 (vn : Int)) := q_at q5 rfl
    refine g_skip ?_
    refine g_qt ?_
    refine g_block ?_
    refine g_seq ?_
    refine g_region ?_
    refine g_pure (p_move rfl) rfl ?_
    refine g_pure (p_indexAddr rfl rfl (by omega) (fun _ => rfl)) rfl ?_
    refine g_pure (p_load (by rfl) rfl (Has.own (by repeat' (first | exact Take.here | apply Take.there))) hq0) rfl ?_
    refine g_pure (p_assign rfl) rfl ?_
    refine g_nil ?_
    refine g_qt ?_
    refine g_seq ?_
    refine g_region ?_
    refine g_pure (p_move rfl) rfl ?_
    refine g_pure (p_tailQ rfl rfl rfl (by omega)) rfl ?_
    refine g_pure (p_assign rfl) rfl ?_
    refine g_nil ?_
    refine g_qt ?_
    refine g_seq ?_
    refine g_region ?_
    refine g_pure (p_assign rfl) rfl ?_
    refine g_nil ?_
    refine g_qt ?_
    refine g_block ?_
    refine g_tailQ (x := .int .i64 (vn : Int)) (xs := r.map Z.encI) (by repeat' (first | exact Take.here | apply Take.there)) (by simp) q2 q3 q4 q5 ?_
    rw [show ((vn : Int) :: r).length - 1 = r.length by rw [hlen1]; rfl]
    generalize (if tc = 1 then some (⟨g, off, none⟩ : Addr) else some ⟨g, off + 1, none⟩) = qa1
    generalize tc - 1 = qc1
    refine g_loop (fun q : Nat × List Bool × List Int × Option Addr × Nat => [(0, .slice na n nc), (2, .int .i64 0), (7, .slice (some ⟨b14, 0, none⟩) n n), (8, .slice q.2.2.2.1 q.2.2.1.length q.2.2.2.2), (9, .int .i64 vn), (10, .int .i64 q.1)])
      (fun q => [Blk b14 (.cells (q.2.1.map encB).toArray 4 (0, 0)), OwnQ 3 q.2.2.2.1 q.2.2.1.length q.2.2.2.2 (q.2.2.1.map Z.encI)]) (fun q => q.1 ≤ (tosP E vn).length ∧ WM E n s vn ((tosP E vn).take q.1) q.2.1 q.2.2.1 ∧ leftW q.2.1 q.2.2.1 + 1 ≤ leftW seen ((vn : Int) :: r)) (fun q => (tosP E vn).length - q.1)
      (0, seen, r, qa1, qc1) ⟨Nat.zero_le _, hM0, by show leftW seen r + 1 ≤ leftW seen ((vn : Int) :: r); unfold leftW; rw [hlen1]; omega⟩ (by (repeat (first | exact trivial | refine ⟨by rfl, ?_⟩)); done) (by repeat' (first | exact Cover.nil | exact Take.here | apply Cover.cons | apply Take.there)) ?_
    rintro ⟨j, seen1, todo1, ta1, tc1⟩ ⟨hj, hM, hlw3⟩
    dsimp only at hj hM hlw3 ⊢
    have hsl := hM.len
    refine g_seq ?_
    refine g_seq ?_
    refine g_region ?_
    refine g_pure (p_move rfl) rfl ?_
    refine g_pure (p_move rfl) rfl ?_
    refine g_pure (p_move rfl) rfl ?_
    refine g_pure (p_indexAddr rfl rfl (by omega) (fun _ => r1)) rfl ?_
    refine g_pure (p_load (by rfl) rfl (Has.ro r2) r3) rfl ?_
    refine g_pure (p_len (by rfl) rfl) rfl ?_
    refine g_pure (p_lss rfl rfl) rfl ?_
    refine g_nil ?_
    refine g_qt ?_
    refine g_ifd rfl (fun y => ?_) (fun y => ?_)
    · have hj' : j < (tosP E vn).length := by omega
      obtain ⟨bl, ol, cl, Tl, zl, l1, l2, l3⟩ := rsl_at r4 (by omega)
      have l3 := l3 j hj'
      have htk := take_snoc hj'
      have hmem := hmt.1 (List.getElem_mem hj')
      have hin := (ho _ hmem).2
      dsimp only at hin
      generalize hu : (tosP E vn)[j] = u at *
      obtain ⟨u1, u2⟩ := hin
      have hcu := getB_cell (d := seen1) u1 (by omega)
      have hset := setB_cell (d := seen1) (u := u) (x := true)
      have hlw4 : todo1.length ≤ leftW seen1 todo1 := by unfold leftW; omega
      refine g_skip ?_
      refine g_qt ?_
      refine g_seq ?_
      refine g_block ?_
      refine g_seq ?_
      refine g_region ?_
      refine g_pure (p_move rfl) rfl ?_
      refine g_pure (p_move rfl) rfl ?_
      refine g_pure (p_indexAddr rfl rfl (by omega) (fun _ => r1)) rfl ?_
      refine g_pure (p_load (by rfl) rfl (Has.ro r2) r3) rfl ?_
      refine g_pure (p_move rfl) rfl ?_
      refine g_pure (p_indexAddr rfl rfl (by omega) (fun _ => l1)) rfl ?_
      refine g_pure (p_load (by rfl) rfl (Has.ro l2) l3) rfl ?_
      refine g_pure (p_assign rfl) rfl ?_
      refine g_nil ?_
      refine g_qt ?_
      refine g_seq ?_
      refine g_region ?_
      refine g_pure (p_move rfl) rfl ?_
      refine g_pure (p_move rfl) rfl ?_
      refine g_pure (p_geq rfl rfl) rfl ?_
      refine g_pure (p_move rfl) rfl ?_
      refine g_splitd rfl rfl (fun h1 => ?_) (fun h1 => ?_)
      · refine g_yes rfl rfl ?_
        refine g_pure (p_move rfl) rfl ?_
        refine g_yes rfl rfl ?_
        refine g_pure (p_move rfl) rfl ?_
        refine g_yes rfl rfl ?_
        refine g_pure (p_indexAddr rfl rfl (by omega) (fun _ => rfl)) rfl ?_
        refine g_yes rfl rfl ?_
        refine g_pure (p_load (by rfl) rfl (Has.own (by repeat' (first | exact Take.here | apply Take.there))) hcu) rfl ?_
        refine g_yes rfl rfl ?_
        refine g_pure (p_not rfl) rfl ?_
        first | refine g_pure (p_pickt rfl rfl) rfl ?_ | refine g_pure (p_pickf rfl rfl) rfl ?_
        refine g_nil ?_
        refine g_qt ?_
        cases hb : getB seen1 u with
        | false =>
          refine g_ift rfl ?_
          refine g_seq ?_
          refine g_region ?_
          refine g_pure (p_move rfl) rfl ?_
          refine g_pure (p_move rfl) rfl ?_
          refine g_pure (p_indexAddr rfl rfl (by omega) (fun _ => rfl)) rfl ?_
          refine g_eff0 (e_store1 (by rfl) rfl rfl rfl (by repeat' (first | exact Take.here | apply Take.there)) (by rw [List.length_map, hsl]; show 0 + u.toNat * 1 < n; omega)) (fun _ _ => ?_)
          rintro rfl
          refine g_nil ?_
          refine g_qt ?_
          refine g_region ?_
          refine g_pure (p_move rfl) rfl ?_
          refine g_pure (p_move rfl) rfl ?_
          refine g_eff (e_bs (xs := [.tmp 58]) rfl rfl rfl (by rfl) (by rfl) rfl (by rfl)) rfl (fun _ _ => ?_)
          rintro ⟨b59, rfl, rfl⟩
          refine g_eff (e_appendQ (by rfl) rfl rfl rfl (Has.own (by repeat' (first | exact Take.here | apply Take.there))) rfl (by rfl) (by repeat' (first | exact Take.here | apply Take.there)) (by show (_ + 1) * 8 ≤ _; omega) (by omega)) rfl (fun _ _ => ?_)
          rintro ⟨a60, c60, rfl, rfl⟩
          refine g_pure (p_assign rfl) rfl ?_
          refine g_nil ?_
          refine g_qb ?_
          refine g_qt ?_
          refine g_region ?_
          refine g_pure (p_move rfl) rfl ?_
          first | refine g_pure (p_addi rfl rfl (by omega)) rfl ?_ | refine g_pure (p_add rfl rfl) rfl ?_
          refine g_pure (p_assign rfl) rfl ?_
          refine g_nil ?_
          refine g_qn ?_
          refine g_weak (B := Blk b14 (.cells ((seen1.set u.toNat true).map encB).toArray 4 (0, 0))) (by repeat' (first | exact Take.here | apply Take.there)) (blk_eq hset) ?_
          rw [show todo1.map Z.encI ++ [Value.int IntKind.i64 u] = (todo1 ++ [u]).map Z.encI by rw [List.map_append]; rfl, show todo1.length + 1 = (todo1 ++ [u]).length by rw [List.length_append]; rfl]
          have hla := leftW_add (todo := todo1) ⟨u1, by omega⟩ hb
          exact g_next (j + 1, seen1.set u.toNat true, todo1 ++ [u], a60, c60) (by (repeat (first | exact trivial | refine ⟨by rfl, ?_⟩)); done) (by repeat' (first | exact Cover.nil | exact Take.here | apply Cover.cons | apply Take.there)) ⟨by dsimp only; omega, by dsimp only; rw [htk]; exact hM.add hb hmem, by dsimp only; omega⟩ (by dsimp only; omega)
        | true =>
          refine g_iff rfl ?_
          refine g_skip ?_
          refine g_qb ?_
          refine g_qt ?_
          refine g_region ?_
          refine g_pure (p_move rfl) rfl ?_
          first | refine g_pure (p_addi rfl rfl (by omega)) rfl ?_ | refine g_pure (p_add rfl rfl) rfl ?_
          refine g_pure (p_assign rfl) rfl ?_
          refine g_nil ?_
          refine g_qn ?_
          exact g_next (j + 1, seen1, todo1, ta1, tc1) (by (repeat (first | exact trivial | refine ⟨by rfl, ?_⟩)); done) (by repeat' (first | exact Cover.nil | exact Take.here | apply Cover.cons | apply Take.there)) ⟨by dsimp only; omega, by dsimp only; rw [htk]; exact hM.skip hb, hlw3⟩ (by dsimp only; omega)
      · exact absurd u1 (by omega)
    · have hje : j = (tosP E vn).length := by omega
      rw [hje, List.take_length] at hM
      refine g_exit ?_
      refine g_qt_exit ?_
      refine g_qn_exit ?_
      refine g_qb_exit ?_
      refine g_qb ?_
      refine g_qn ?_
      exact g_next (seen1, todo1, ta1, tc1) (by (repeat (first | exact trivial | refine ⟨by rfl, ?_⟩)); done) (by repeat' (first | exact Cover.nil | exact Take.here | apply Cover.cons | apply Take.there)) ⟨hM.over fun w hw => hmt.2 hw, by dsimp only; omega⟩ (by dsimp only; omega)
  · have hte : todo = [] := List.eq_nil_of_length_eq_zero (by omega)
    subst hte
    have hsl := hW.len
    refine g_exit ?_
    refine g_qt_exit ?_
    refine g_qn_exit ?_
    refine g_qb_exit ?_
    refine g_qt ?_
    refine g_seq ?_
    refine g_region ?_
    refine g_pure (p_move rfl) rfl ?_
    refine g_pure (p_assign rfl) rfl ?_
    refine g_nil ?_
    refine g_qt ?_
    refine g_ret ?_
    refine g_fold (k := n) (cap := n) (size := 1) (xs := seen.map encB) .here (Nat.le_refl _) (by omega) (by simp [hsl]) (by rw [Nat.mul_one, List.take_of_length_le (by simp [hsl])]) ?_
    exact g_post (rs := [.tmp 6]) rfl (.tmp rfl .nil) ⟨_, _, seen, rfl, rfl, hW.finish⟩ (by repeat' (first | exact Cover.nil | exact Take.here | apply Cover.cons | apply Take.there))
end Go.Proofs.Ytmefecnjliadaaa
