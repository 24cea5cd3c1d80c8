/- Chapter 4: what is reached. Conditions: none. -/
import Derived.Test.YtmefecnjliadaaaN8
import Derived.Test.YtmefecnjliadaaaNg
namespace Go.Z.Gr
set_option maxRecDepth 8000
set_option linter.unusedVariables false
set_option linter.unusedSimpArgs false
set_option linter.unusedSectionVars false
open Go Go.Z
theorem getB_cell {d : List Bool} {u : Int} (h0 : 0 ≤ u) (h : u < d.length) : (d.map encB)[0 + u.toNat * 1]? = some (.bool (getB d u)) := by
  obtain ⟨m, rfl⟩ : ∃ m : Nat, u = m := ⟨u.toNat, by omega⟩
  have hm : m < d.length := by omega
  rw [getB_nat hm, Int.toNat_natCast, Nat.zero_add, Nat.mul_one, List.getElem?_map, List.getElem?_eq_getElem hm]; rfl
theorem setB_cell {d : List Bool} {u : Int} {x : Bool} : (d.map encB).set (0 + u.toNat * 1) (.bool x) = (d.set u.toNat x).map encB := by
  rw [Nat.zero_add, Nat.mul_one, List.map_set]; rfl
theorem repB (n : Nat) : List.replicate n (Value.bool false) = (List.replicate n false).map encB := by simp [encB]
open Classical in
def reachA (n : Int) (E : Ed) (s : Int) (xs : List Bool) (e : Int) : Prop := if validP n E [s] = true then e = 0 ∧ RchOk E n.toNat s xs else e = 2 ∧ xs = []
end Go.Z.Gr
namespace Go.Proofs.Ytmefecnjliadaaa
set_option maxRecDepth 8000
set_option linter.unusedVariables false
set_option linter.unusedSimpArgs false
set_option linter.unusedSectionVars false
open Go Go.Z Go.Z.Gr
theorem visit_ok {ρ : Nat → Obj → Prop} {b g n : Nat} (out : List Bool) (hn : out.length = n) (v : Int) (hv : 0 ≤ v ∧ v < n) :
    Con Try.prog ρ 33 #[.int .i64 v, .pointer (some ⟨b, 0, none⟩)] [Blk b (.cells [.slice (some ⟨g, 0, none⟩) n n].toArray 31 (0, 0)), Blk g (.cells (out.map encB).toArray 4 (0, 0))]
      (fun r H => r = .tuple #[] ∧ H = [Blk b (.cells [.slice (some ⟨g, 0, none⟩) n n].toArray 31 (0, 0)), Blk g (.cells ((out.set v.toNat true).map encB).toArray 4 (0, 0))]) := by
  refine con_intro Try.func33 Try.call33 rfl Try.ntmps33 rfl (L := [(0, _), (1, _)]) rfl fun w hh => ?_
  refine g_region ?_
  refine g_pure (p_load (by rfl) rfl (by first | (apply Has.own; (repeat' (first | exact Take.here | apply Take.there)); done) | exact Has.ro (by assumption)) (by first | rfl | assumption)) rfl ?_
  refine g_pure (p_move rfl) rfl ?_
  refine g_pure (p_indexAddr rfl rfl (by omega) (fun _ => rfl)) rfl ?_
  refine g_eff0 (e_store1 (by rfl) rfl rfl rfl (by repeat' (first | exact Take.here | apply Take.there)) (by rw [List.length_map, hn]; show 0 + v.toNat * 1 < n; omega)) (fun _ _ => ?_)
  rintro rfl
  refine g_nil ?_
  refine g_weak .here (blk_eq setB_cell) ?_
  exact g_postn (rs := []) rfl .nil ⟨rfl, rfl⟩ (by repeat' (first | exact Cover.nil | exact Take.here | apply Cover.cons | apply Take.there))
theorem walk_ok {ρ : Nat → Obj → Prop} {b g : Nat} (n : Nat) (hn : n ≤ 4096) (E : Ed) (ho : EdOk n E) (hlE : E.length ≤ 1000000) (na : Option Addr) (nc : Nat) (hN : NbR ρ na n fun v => nbP E v) (s : Int) (hs : 0 ≤ s ∧ s < n) :
    Con Try.prog ρ 32 #[.slice na n nc, .int .i64 s, .func (.func 33) #[] #[.pointer (some ⟨b, 0, none⟩)]] [Blk b (.cells [.slice (some ⟨g, 0, none⟩) n n].toArray 31 (0, 0)), Blk g (.cells ((List.replicate n false).map encB).toArray 4 (0, 0))]
      (fun r H => r = .tuple #[] ∧ ∃ out, H = [Blk b (.cells [.slice (some ⟨g, 0, none⟩) n n].toArray 31 (0, 0)), Blk g (.cells (out.map encB).toArray 4 (0, 0))] ∧ RchOk E n s out) := by
  refine con_intro Try.func32 Try.call32 rfl Try.ntmps32 rfl (L := [(0, _), (1, _), (2, _)]) rfl fun w hh => ?_
  refine g_seq ?_
  refine g_region ?_
  refine g_pure (p_move rfl) rfl ?_
  refine g_pure (p_len (by rfl) rfl) rfl ?_
  refine g_eff (e_make (by rfl) (by rfl) rfl rfl (by omega) (by first | omega | (dsimp only; omega)) (by omega)) rfl (fun _ _ => ?_)
  rintro ⟨b13, rfl, rfl⟩
  refine g_pure (p_assign rfl) rfl ?_
  refine g_nil ?_
  refine g_qt ?_
  refine g_seq ?_
  rw [Int.toNat_natCast]
  refine g_region ?_
  refine g_pure (p_move rfl) rfl ?_
  refine g_pure (p_move rfl) rfl ?_
  refine g_pure (p_indexAddr rfl rfl (by omega) (fun _ => rfl)) rfl ?_
  refine g_eff0 (e_store1 (by rfl) rfl rfl rfl (by repeat' (first | exact Take.here | apply Take.there)) (by rw [List.length_replicate]; show 0 + s.toNat * 1 < _; omega)) (fun _ _ => ?_)
  rintro rfl
  refine g_nil ?_
  refine g_qt ?_
  refine g_seq ?_
  refine g_region ?_
  refine g_pure (p_move rfl) rfl ?_
  refine g_eff (e_bs (xs := [.tmp 17]) rfl rfl rfl (by rfl) (by rfl) rfl (by rfl)) rfl (fun _ _ => ?_)
  rintro ⟨b18, rfl, rfl⟩
  refine g_pure (p_assign rfl) rfl ?_
  refine g_nil ?_
  refine g_qt ?_
  refine g_block ?_
  refine g_weak (B := Blk b13 (.cells (((List.replicate n false).set s.toNat true).map encB).toArray 4 (0, 0))) (.there .here) (blk_eq (by rw [← setB_cell, ← repB])) ?_
  refine g_weak (B := OwnSl 3 1 (some ⟨b18, 0, none⟩) 1 1 ([s].map Z.encI)) (.there .here) (fun hh hb => own_of_blk (k := 1) (cap := 1) (size := 1) (by decide) (by decide) rfl hh hb) ?_
  refine g_loop (fun q : List Bool × List Bool × List Int × Option Addr × Nat => [(0, .slice na n nc), (2, .func (.func 33) #[] #[.pointer (some ⟨b, 0, none⟩)]), (6, .slice (some ⟨b13, 0, none⟩) n n), (7, .slice q.2.2.2.1 q.2.2.1.length q.2.2.2.2)])
    (fun q => [Blk b (.cells [.slice (some ⟨g, 0, none⟩) n n].toArray 31 (0, 0)), Blk g (.cells (q.1.map encB).toArray 4 (0, 0)), Blk b13 (.cells (q.2.1.map encB).toArray 4 (0, 0)), OwnSl 3 1 q.2.2.2.1 q.2.2.1.length q.2.2.2.2 (q.2.2.1.map Z.encI)]) (fun q => WI E n s q.2.1 q.2.2.1 ∧ OutI n q.1 q.2.1 q.2.2.1 ∧ leftW q.2.1 q.2.2.1 ≤ 2 * n + 1) (fun q => leftW q.2.1 q.2.2.1)
    (List.replicate n false, (List.replicate n false).set s.toNat true, [s], some ⟨b18, 0, none⟩, 1) ⟨WI.start hs ho, OutI.start hs, leftW_start n s⟩ (by (repeat (first | exact trivial | refine ⟨by rfl, ?_⟩)); done) (by repeat' (first | exact Cover.nil | exact Take.here | apply Cover.cons | apply Take.there)) ?_
  rintro ⟨out, seen, todo, ta, tc⟩ ⟨hW, hO, hlw⟩
  dsimp only at hW hO hlw ⊢
  refine g_seq ?_
  refine g_seq ?_
  refine g_region ?_
  refine g_pure (p_move rfl) rfl ?_
  refine g_pure (p_len (by rfl) rfl) rfl ?_
  refine g_pure (p_gtr rfl rfl) rfl ?_
  refine g_nil ?_
  refine g_qt ?_
  refine g_ifd rfl (fun p => ?_) (fun p => ?_)
  · obtain ⟨r, v, rfl⟩ : ∃ r v, todo = r ++ [v] := ⟨todo.dropLast, todo.getLast (fun e => by rw [e] at p; exact absurd p (by decide)), (List.dropLast_concat_getLast _).symm⟩
    have hperm : (r ++ [v]).Perm (v :: r) := List.perm_append_comm
    obtain ⟨⟨v1, v2⟩, v3⟩ := hW.tin v (by simp)
    obtain ⟨vn, rfl⟩ : ∃ m : Nat, v = m := ⟨v.toNat, by omega⟩
    have hM0 := hW.pop hperm
    have hO1 := hO.pop hperm hW.nd ⟨v1, v2⟩ v3
    obtain ⟨bb, oo, cc, TT, zz, ai, ci, r1, r2, r3, r4⟩ := hN.at (v := vn) (by omega)
    have hll := nbP_len E vn
    have hrl : (r ++ [(vn : Int)]).length = r.length + 1 := by simp
    have hlw2 : (r ++ [(vn : Int)]).length ≤ leftW seen (r ++ [(vn : Int)]) := by unfold leftW; omega
    refine g_own (.there (.there (.there .here))) (fun _ h _ _ => absurd h (by omega)) ?_
    rintro gt cur rfl q1 q2 q3 q4 q5
    have hat : cur[0 + (((r ++ [(vn : Int)]).length : Int) - 1).toNat * 1]? = some (.int .i64 (vn : Int)) := by
      refine own_at1 (k := r.length) q4 (by rw [hrl]; omega) ?_
      rw [List.map_append, List.getElem?_append_right (by simp)]; simp [Z.encI]
    refine g_skip ?_
    refine g_qt ?_
    refine g_block ?_
    refine g_seq ?_
    refine g_region ?_
    refine g_pure (p_move rfl) rfl ?_
    refine g_pure (p_move rfl) rfl ?_
    refine g_pure (p_len (by rfl) rfl) rfl ?_
    first | refine g_pure (p_subi rfl rfl (by omega)) rfl ?_ | refine g_pure (p_sub rfl rfl) rfl ?_
    refine g_pure (p_indexAddr rfl rfl (by omega) (fun _ => rfl)) rfl ?_
    refine g_pure (p_load (by rfl) rfl (Has.own (by repeat' (first | exact Take.here | apply Take.there))) hat) rfl ?_
    refine g_pure (p_assign rfl) rfl ?_
    refine g_nil ?_
    refine g_qt ?_
    refine g_seq ?_
    refine g_region ?_
    refine g_pure (p_move rfl) rfl ?_
    refine g_pure (p_move rfl) rfl ?_
    refine g_pure (p_len (by rfl) rfl) rfl ?_
    first | refine g_pure (p_subi rfl rfl (by omega)) rfl ?_ | refine g_pure (p_sub rfl rfl) rfl ?_
    refine g_pure (p_sliceh rfl rfl (by omega)) rfl ?_
    refine g_pure (p_assign rfl) rfl ?_
    refine g_nil ?_
    refine g_qt ?_
    refine g_seq ?_
    refine g_region ?_
    refine g_pure (p_move rfl) rfl ?_
    refine g_pure (p_move rfl) rfl ?_
    refine g_call (Hin := [Blk b (.cells [.slice (some ⟨g, 0, none⟩) n n].toArray 31 (0, 0)), Blk g (.cells (out.map encB).toArray 4 (0, 0))]) (Hr := ?hr1) (R := ?rr1) rfl rfl rfl ?hin1 ?hc1 ?hk1
    case hin1 => repeat' (first | exact Cover.nil | exact Take.here | apply Cover.cons | apply Take.there)
    case hc1 => intro ρ' hρ hR; exact visit_ok out hO.1 vn ⟨v1, v2⟩
    rintro _ _ ⟨rfl, rfl⟩
    rw [show (((r ++ [(vn : Int)]).length : Int) - 1).toNat = r.length by rw [hrl]; omega]
    refine g_fold (k := r.length) (cap := tc) (size := 1) (g := gt) (cur := cur) (xs := r.map Z.encI) (by repeat' (first | exact Take.here | apply Take.there)) (by omega) q2 q3 (by
      have := congrArg (List.take r.length) q4
      rw [List.take_take, Nat.min_eq_left (by omega), ← List.map_take, List.take_left] at this
      rw [Nat.mul_one]; exact this) ?_
    generalize hot : out.set (vn : Int).toNat true = out1 at *
    refine g_nil ?_
    refine g_qt ?_
    refine g_seq ?_
    refine g_region ?_
    refine g_pure (p_move rfl) rfl ?_
    refine g_pure (p_move rfl) rfl ?_
    refine g_pure (p_indexAddr rfl rfl (by omega) (fun _ => r1)) rfl ?_
    refine g_pure (p_load (by rfl) rfl (Has.ro r2) r3) rfl ?_
    refine g_pure (p_len (by rfl) rfl) rfl ?_
    refine g_pure (p_move rfl) rfl ?_
    refine g_nil ?_
    refine g_qt ?_
    refine g_block ?_
    refine g_loop (fun q : Nat × List Bool × List Int × Option Addr × Nat => [(0, .slice na n nc), (2, .func (.func 33) #[] #[.pointer (some ⟨b, 0, none⟩)]), (6, .slice (some ⟨b13, 0, none⟩) n n), (7, .slice q.2.2.2.1 q.2.2.1.length q.2.2.2.2), (39, .slice ai (nbP E vn).length ci), (40, .int .i64 (nbP E vn).length), (41, .int .i64 q.1)])
      (fun q => [Blk b (.cells [.slice (some ⟨g, 0, none⟩) n n].toArray 31 (0, 0)), Blk g (.cells (out1.map encB).toArray 4 (0, 0)), Blk b13 (.cells (q.2.1.map encB).toArray 4 (0, 0)), OwnSl 3 1 q.2.2.2.1 q.2.2.1.length q.2.2.2.2 (q.2.2.1.map Z.encI)]) (fun q => q.1 ≤ (nbP E vn).length ∧ WM E n s vn ((nbP E vn).take q.1) q.2.1 q.2.2.1 ∧ OutI n out1 q.2.1 q.2.2.1 ∧ leftW q.2.1 q.2.2.1 + 1 ≤ leftW seen (r ++ [(vn : Int)])) (fun q => (nbP E vn).length - q.1)
      (0, seen, r, some ⟨gt, 0, none⟩, tc) ⟨Nat.zero_le _, hM0, hO1, by show leftW seen r + 1 ≤ leftW seen (r ++ [(vn : Int)]); unfold leftW; rw [hrl]; omega⟩ (by (repeat (first | exact trivial | refine ⟨by rfl, ?_⟩)); done) (by repeat' (first | exact Cover.nil | exact Take.here | apply Cover.cons | apply Take.there)) ?_
    rintro ⟨j, seen1, todo1, ta1, tc1⟩ ⟨hj, hM, hO2, hlw3⟩
    dsimp only at hj hM hO2 hlw3 ⊢
    have hsl := hM.len
    refine g_seq ?_
    refine g_region ?_
    refine g_pure (p_lss rfl rfl) rfl ?_
    refine g_nil ?_
    refine g_qt ?_
    refine g_seq ?_
    refine g_ifd rfl (fun y => ?_) (fun y => ?_)
    · have hj' : j < (nbP E vn).length := by omega
      obtain ⟨bl, ol, cl, Tl, zl, l1, l2, l3⟩ := rsl_at r4 (by omega)
      have l3 := l3 j hj'
      have htk := take_snoc hj'
      have hmem := nbP_mem.1 (List.getElem_mem hj')
      have hin := nb_in ho hj'
      generalize hu : (nbP E vn)[j] = u at *
      obtain ⟨u1, u2⟩ := hin
      have hcu := getB_cell (d := seen1) u1 (by omega)
      have hset := setB_cell (d := seen1) (u := u) (x := true)
      have hlw4 : todo1.length ≤ leftW seen1 todo1 := by unfold leftW; omega
      refine g_skip ?_
      refine g_qt ?_
      refine g_seq ?_
      refine g_block ?_
      refine g_seq ?_
      refine g_region ?_
      refine g_pure (p_indexAddr rfl rfl (by omega) (fun _ => l1)) rfl ?_
      refine g_pure (p_load (by rfl) rfl (Has.ro l2) l3) rfl ?_
      refine g_pure (p_assign rfl) rfl ?_
      refine g_nil ?_
      refine g_qt ?_
      refine g_seq ?_
      refine g_region ?_
      refine g_pure (p_move rfl) rfl ?_
      refine g_pure (p_move rfl) rfl ?_
      refine g_pure (p_indexAddr rfl rfl (by omega) (fun _ => rfl)) rfl ?_
      refine g_pure (p_load (by rfl) rfl (Has.own (by repeat' (first | exact Take.here | apply Take.there))) hcu) rfl ?_
      refine g_pure (p_not rfl) rfl ?_
      refine g_nil ?_
      refine g_qt ?_
      cases hb : getB seen1 u with
      | false =>
        refine g_ift rfl ?_
        refine g_seq ?_
        refine g_region ?_
        refine g_pure (p_move rfl) rfl ?_
        refine g_pure (p_move rfl) rfl ?_
        refine g_pure (p_indexAddr rfl rfl (by omega) (fun _ => rfl)) rfl ?_
        refine g_eff0 (e_store1 (by rfl) rfl rfl rfl (by repeat' (first | exact Take.here | apply Take.there)) (by rw [List.length_map, hsl]; show 0 + u.toNat * 1 < n; omega)) (fun _ _ => ?_)
        rintro rfl
        refine g_nil ?_
        refine g_qt ?_
        refine g_region ?_
        refine g_pure (p_move rfl) rfl ?_
        refine g_pure (p_move rfl) rfl ?_
        refine g_eff (e_bs (xs := [.tmp 54]) rfl rfl rfl (by rfl) (by rfl) rfl (by rfl)) rfl (fun _ _ => ?_)
        rintro ⟨b55, rfl, rfl⟩
        refine g_eff (e_appendO (by rfl) (by rfl) rfl rfl (by first | (apply Has.own; (repeat' (first | exact Take.here | apply Take.there)); done) | exact Has.ro (by assumption)) (by rfl) (by rfl) (by repeat' (first | exact Take.here | apply Take.there)) (by omega) (by first | omega | (dsimp only; omega) | (simp <;> omega)) (by omega)) rfl (fun _ _ => ?_)
        rintro ⟨a56, c56, rfl, rfl⟩
        refine g_pure (p_assign rfl) rfl ?_
        refine g_nil ?_
        refine g_qb ?_
        refine g_qt ?_
        refine g_region ?_
        first | refine g_pure (p_addi rfl rfl (by omega)) rfl ?_ | refine g_pure (p_add rfl rfl) rfl ?_
        refine g_pure (p_move rfl) rfl ?_
        refine g_nil ?_
        refine g_qn ?_
        rw [show todo1.map Z.encI ++ [Value.int IntKind.i64 u] = (todo1 ++ [u]).map Z.encI by rw [List.map_append]; rfl, show todo1.length + 1 = (todo1 ++ [u]).length by rw [List.length_append]; rfl]
        refine g_weak (B := Blk b13 (.cells ((seen1.set u.toNat true).map encB).toArray 4 (0, 0))) (by repeat' (first | exact Take.here | apply Take.there)) (blk_eq hset) ?_
        have hla := leftW_add (todo := todo1) ⟨u1, by omega⟩ hb
        exact g_next (j + 1, seen1.set u.toNat true, todo1 ++ [u], a56, c56) (by (repeat (first | exact trivial | refine ⟨by rfl, ?_⟩)); done) (by repeat' (first | exact Cover.nil | exact Take.here | apply Cover.cons | apply Take.there)) ⟨by dsimp only; omega, by dsimp only; rw [htk]; exact hM.add hb hmem, hO2.add hsl ⟨u1, u2⟩ hb, by dsimp only; omega⟩ (by dsimp only; omega)
      | true =>
        refine g_iff rfl ?_
        refine g_skip ?_
        refine g_qb ?_
        refine g_qt ?_
        refine g_region ?_
        first | refine g_pure (p_addi rfl rfl (by omega)) rfl ?_ | refine g_pure (p_add rfl rfl) rfl ?_
        refine g_pure (p_move rfl) rfl ?_
        refine g_nil ?_
        refine g_qn ?_
        exact g_next (j + 1, seen1, todo1, ta1, tc1) (by (repeat (first | exact trivial | refine ⟨by rfl, ?_⟩)); done) (by repeat' (first | exact Cover.nil | exact Take.here | apply Cover.cons | apply Take.there)) ⟨by dsimp only; omega, by dsimp only; rw [htk]; exact hM.skip hb, hO2, hlw3⟩ (by dsimp only; omega)
    · have hje : j = (nbP E vn).length := by omega
      rw [hje, List.take_length] at hM
      refine g_exit ?_
      refine g_qt_exit ?_
      refine g_qn_exit ?_
      refine g_qb_exit ?_
      refine g_qb ?_
      refine g_qn ?_
      exact g_next (out1, seen1, todo1, ta1, tc1) (by (repeat (first | exact trivial | refine ⟨by rfl, ?_⟩)); done) (by repeat' (first | exact Cover.nil | exact Take.here | apply Cover.cons | apply Take.there)) ⟨hM.over fun w hw => nbP_mem.2 hw, hO2, by dsimp only; omega⟩ (by dsimp only; omega)
  · have hte : todo = [] := List.eq_nil_of_length_eq_zero (by omega)
    subst hte
    refine g_exit ?_
    refine g_qt_exit ?_
    refine g_qn_exit ?_
    refine g_qb_exit ?_
    exact g_postn (rs := []) rfl .nil ⟨rfl, out, rfl, hO.finish hW⟩ (by repeat' (first | exact Cover.nil | exact Take.here | apply Cover.cons | apply Take.there))
theorem reach_ok {ρ : Nat → Obj → Prop} (n : Int) (a : Option Addr) (c : Nat) (E : Ed) (hE : EdR ρ a E) (hlE : E.length ≤ 1000000) (s : Int) :
    Con Try.prog ρ 16 #[.int .i64 n, .slice a E.length c, .int .i64 s] [] (fun r H => ∃ a' c' xs e, r = .tuple #[.slice a' xs.length c', .int .i64 e] ∧ H = [OwnSl 4 1 a' xs.length c' (xs.map encB)] ∧ reachA n E s xs e) := by
  refine con_intro Try.func16 Try.call16 rfl Try.ntmps16 rfl (L := [(0, _), (1, _), (2, _)]) rfl fun w hh => ?_
  refine g_seq ?_
  refine g_region ?_
  refine g_pure (p_assign rfl) rfl ?_
  refine g_pure (p_assign rfl) rfl ?_
  refine g_nil ?_
  refine g_qt ?_
  refine g_seq ?_
  refine g_seq ?_
  refine g_region ?_
  refine g_pure (p_move rfl) rfl ?_
  refine g_pure (p_move rfl) rfl ?_
  refine g_pure (p_move rfl) rfl ?_
  refine g_eff (e_bs (xs := [.tmp 11]) rfl rfl rfl (by rfl) (by rfl) rfl (by rfl)) rfl (fun _ _ => ?_)
  rintro ⟨b12, rfl, rfl⟩
  refine g_call (Hin := []) (Hr := ?hr2) (R := ?rr2) rfl rfl rfl ?hin2 ?hc2 ?hk2
  case hin2 => repeat' (first | exact Cover.nil | exact Take.here | apply Cover.cons | apply Take.there)
  case hc2 => intro ρ' hρ hR; exact valid_ok n a c E (hE.mono hρ) (by omega) (some ⟨b12, 0, none⟩) 1 [s] ⟨rfl, b12, 0, [.int .i64 s], 3, (0, 0), fun _ => ⟨rfl, (Take.ro (A := Blk b12 _) (by repeat' (first | exact Take.here | apply Take.there)) hR).blk, fun j v h => by rw [Nat.zero_add]; exact h⟩⟩ (by simp)
  rintro _ _ ⟨rfl, rfl⟩
  refine g_pure (p_not rfl) rfl ?_
  refine g_nil ?_
  refine g_qt ?_
  cases hv : validP n E [s] with
  | false =>
    refine g_ift rfl ?_
    refine g_seq ?_
    refine g_region ?_
    refine g_pure (p_assign rfl) rfl ?_
    refine g_pure (p_assign rfl) rfl ?_
    refine g_nil ?_
    refine g_qt ?_
    refine g_ret ?_
    refine g_qt_ret ?_
    refine g_ownnil (e := 4) (size := 1) ?_
    exact g_post (rs := [.tmp 6, .tmp 7]) rfl (.tmp rfl (.tmp rfl .nil)) ⟨none, 0, [], 2, rfl, rfl, by unfold reachA; rw [if_neg (by rw [hv]; simp)]; exact ⟨rfl, rfl⟩⟩ (by repeat' (first | exact Cover.nil | exact Take.here | apply Cover.cons | apply Take.there))
  | true =>
    have hv2 := hv
    unfold validP at hv2
    rw [Bool.and_eq_true, Bool.and_eq_true] at hv2
    have hn0 := of_decide_eq_true hv2.1.1
    have hs : 0 ≤ s ∧ s < n := by
      have := hv2.2
      rw [List.all_cons, Bool.and_eq_true] at this
      exact of_decide_eq_true this.1
    obtain ⟨m, rfl⟩ : ∃ m : Nat, n = m := ⟨n.toNat, by omega⟩
    obtain ⟨hm, ho⟩ := valid_edok hv
    refine g_iff rfl ?_
    refine g_skip ?_
    refine g_qt ?_
    refine g_seq ?_
    refine g_region ?_
    refine g_pure (p_move rfl) rfl ?_
    refine g_eff (e_make (by rfl) (by rfl) rfl rfl (by omega) (by first | omega | (dsimp only; omega)) (by omega)) rfl (fun _ _ => ?_)
    rintro ⟨b16, rfl, rfl⟩
    refine g_eff (e_alloc (by rfl)) rfl (fun _ _ => ?_)
    rintro ⟨b8, rfl, rfl⟩
    first | refine g_eff0 (e_storeO rfl rfl (by rfl) (by rfl) (by rfl) (by repeat' (first | exact Take.here | apply Take.there)) (by rfl)) (fun _ _ => ?_) | refine g_eff0 (e_store1 (by rfl) rfl rfl rfl (by repeat' (first | exact Take.here | apply Take.there)) (by first | decide | (simp <;> omega) | omega)) (fun _ _ => ?_)
    rintro rfl
    refine g_nil ?_
    refine g_qt ?_
    refine g_seq ?_
    refine g_region ?_
    refine g_pure (p_move rfl) rfl ?_
    refine g_pure (p_move rfl) rfl ?_
    refine g_call (Hin := []) (Hr := ?hr3) (R := ?rr3) rfl rfl rfl ?hin3 ?hc3 ?hk3
    case hin3 => repeat' (first | exact Cover.nil | exact Take.here | apply Cover.cons | apply Take.there)
    case hc3 => intro ρ' hρ hR; exact neigh_ok m a c E (hE.mono hρ) hlE hm ho
    rintro _ _ ⟨na, nc, rfl, rfl⟩
    rw [Int.toNat_natCast]
    refine g_freeze (A := Own2 _ _ na nc _) (by repeat' (first | exact Take.here | apply Take.there)) ?_
    intro ρ1 hρ1 hNo
    have hN : NbR ρ1 na m (fun v => nbP E v) := Own2.ro hNo
    clear hNo
    refine g_weak (B := Blk b16 (.cells ((List.replicate m false).map encB).toArray 4 (0, 0))) (.there .here) (blk_eq (repB m)) ?_
    refine g_pure (p_move rfl) rfl ?_
    refine g_pure (p_makeFunc rfl rfl) rfl ?_
    refine g_call (Hin := [Blk b8 (.cells [.slice (some ⟨b16, 0, none⟩) m m].toArray 31 (0, 0)), Blk b16 (.cells ((List.replicate m false).map encB).toArray 4 (0, 0))]) (Hr := ?hr4) (R := ?rr4) rfl rfl rfl ?hin4 ?hc4 ?hk4
    case hin4 => repeat' (first | exact Cover.nil | exact Take.here | apply Cover.cons | apply Take.there)
    case hc4 => intro ρ' hρ hR; exact walk_ok m hm E ho hlE na nc (hN.mono hρ) s hs
    rintro _ _ ⟨rfl, out, rfl, hR1⟩
    refine g_nil ?_
    refine g_qt ?_
    refine g_seq ?_
    refine g_region ?_
    refine g_pure (p_load (by rfl) rfl (by first | (apply Has.own; (repeat' (first | exact Take.here | apply Take.there)); done) | exact Has.ro (by assumption)) (by first | rfl | assumption)) rfl ?_
    refine g_pure (p_assign rfl) rfl ?_
    refine g_pure (p_assign rfl) rfl ?_
    refine g_nil ?_
    refine g_qt ?_
    refine g_ret ?_
    have hol := hR1.1
    refine g_fold (k := out.length) (cap := m) (size := 1) (g := b16) (xs := out.map encB) (.there .here) (by omega) (by omega) (by simp [hol]) (by rw [Nat.mul_one, List.take_of_length_le (by simp)]) ?_
    rw [show Value.slice (some ⟨b16, 0, none⟩) m m = .slice (some ⟨b16, 0, none⟩) out.length m by rw [hol]]
    refine g_thaw hρ1 ?_
    exact g_post (rs := [.tmp 6, .tmp 7]) rfl (.tmp rfl (.tmp rfl .nil)) ⟨some ⟨b16, 0, none⟩, m, out, 0, rfl, rfl, by unfold reachA; rw [if_pos hv]; exact ⟨rfl, hR1⟩⟩ (by repeat' (first | exact Cover.nil | exact Take.here | apply Cover.cons | apply Take.there))
end Go.Proofs.Ytmefecnjliadaaa
