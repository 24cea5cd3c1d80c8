/- Chapter 4: the search for components: a vertex is left. Conditions: none. -/
import Derived.Test.YtmefecnjliadaaaNj
import Derived.Test.YtmefecnjliadaaaN8
namespace Go.Z.Gr
set_option maxRecDepth 8000
set_option linter.unusedVariables false
set_option linter.unusedSimpArgs false
set_option linter.unusedSectionVars false
open Go Go.Z Go.Z.Gra
def tAB (t : Tj) (st0 a b : List Nat) : Tj := { t with st := st0 ++ a, on := Gra.updL t.on b false, nu := Gra.updL t.nu b t.pa }
theorem tAB_start {t : Tj} {st0 a : List Nat} (h : t.st = st0 ++ a) : tAB t st0 a [] = t := by
  unfold tAB
  rw [updL_nil, updL_nil, ← h]
end Go.Z.Gr
namespace Go.Proofs.Ytmefecnjliadaaa
set_option maxRecDepth 8000
set_option linter.unusedVariables false
set_option linter.unusedSimpArgs false
set_option linter.unusedSectionVars false
open Go Go.Z Go.Z.Gr Go.Z.Gra
theorem leave_ok {ρ : Nat → Obj → Prop} (B : TjB) (t : Tj) (v : Nat) (st0 r : List Nat) (hst : t.st = st0 ++ v :: r) (hnd : (v :: r).Nodup) (hx : ∀ x ∈ v :: r, x < B.n) (hn : B.n ≤ 4096) (hs : t.st.length ≤ 100000) (hp : t.pa ≤ 100000) :
    Con Try.prog ρ 49 #[.pointer (some ⟨B.t, 0, none⟩), .int .i64 v] [TjA B t] (fun rr H => rr = .tuple #[] ∧ H = [TjA B (if t.lo v = t.ix v then t.close st0 (v :: r) else t)]) := by
  have hv := hx v List.mem_cons_self
  refine con_intro Try.func49 Try.call49 rfl Try.ntmps49 rfl (L := [(0, _), (1, _)]) rfl fun w hh => ?_
  refine g_open .here ?_
  rintro _ ⟨sa, sc, rfl⟩
  refine g_seq ?_
  refine g_seq ?_
  refine m_begin0 (.fl 0 0 (.fl 1 0 (.fl 2 0 (.fl 3 1 (.fl 4 0 (.fl 5 0 (.fl 6 1 (.fl 7 0 (.fl 8 0 (.fl 9 0 (.fl 10 1 (.fl 11 0 (.fl 12 0 (.fl 13 1 (.fl 14 0 .done))))))))))))))) (by kernel_rfl) (by kernel_rfl) ?_
  refine m_float0 rfl (fun _ _ => p_move rfl) rfl ?_
  refine m_float0 rfl (fun _ _ => p_nilCheck rfl) rfl ?_
  refine m_float0 rfl (fun _ _ => p_fieldAddr rfl) rfl ?_
  refine m_float rfl (p_load (by rfl) rfl (by first | (apply Has.own; (repeat' (first | exact Take.here | apply Take.there)); done) | exact Has.ro (by assumption)) (by first | rfl | assumption)) rfl ?_
  refine m_float0 rfl (fun _ _ => p_move rfl) rfl ?_
  refine m_float0 rfl (fun _ _ => p_indexAddr rfl rfl (by omega) (fun _ => rfl)) rfl ?_
  refine m_float rfl (p_load (by rfl) rfl (Has.own (by repeat' (first | exact Take.here | apply Take.there))) (cellsG_at' hv)) rfl ?_
  refine m_float0 rfl (fun _ _ => p_move rfl) rfl ?_
  refine m_float0 rfl (fun _ _ => p_nilCheck rfl) rfl ?_
  refine m_float0 rfl (fun _ _ => p_fieldAddr rfl) rfl ?_
  refine m_float rfl (p_load (by rfl) rfl (by first | (apply Has.own; (repeat' (first | exact Take.here | apply Take.there)); done) | exact Has.ro (by assumption)) (by first | rfl | assumption)) rfl ?_
  refine m_float0 rfl (fun _ _ => p_move rfl) rfl ?_
  refine m_float0 rfl (fun _ _ => p_indexAddr rfl rfl (by omega) (fun _ => rfl)) rfl ?_
  refine m_float rfl (p_load (by rfl) rfl (Has.own (by repeat' (first | exact Take.here | apply Take.there))) (cellsG_at' hv)) rfl ?_
  refine m_float0 rfl (fun _ _ => p_neq rfl rfl) rfl ?_
  refine m_nil ?_
  refine g_qt ?_
  refine g_ifnd rfl (fun q => ?_) (fun q => ?_)
  · refine g_ret ?_
    refine g_qt_ret ?_
    rw [if_neg (fun h => q (by rw [h]))]
    refine g_close (K := TjK B t) ⟨sa, sc, rfl⟩ (by repeat' (first | exact Cover.nil | exact Take.here | apply Cover.cons | apply Take.there)) ?_
    exact g_post (rs := []) rfl .nil ⟨rfl, rfl⟩ (by repeat' (first | exact Cover.nil | exact Take.here | apply Cover.cons | apply Take.there))
  · have hlo : t.lo v = t.ix v := by omega
    rw [if_pos hlo]
    refine g_close (K := TjK B t) ⟨sa, sc, rfl⟩ (by repeat' (first | exact Cover.nil | exact Take.here | apply Cover.cons | apply Take.there)) ?_
    rw [show Pk (TjK B t) = TjA B (tAB t st0 (v :: r) []) by rw [tAB_start hst]; rfl]
    clear sa sc
    refine g_skip ?_
    refine g_qt ?_
    refine g_seq ?_
    refine g_block ?_
    refine g_loop (fun _ : List Nat × List Nat => [(0, .pointer (some ⟨B.t, 0, none⟩)), (1, .int .i64 v)]) (fun s => [TjA B (tAB t st0 s.1 s.2)]) (fun s => s.1 ++ s.2 = v :: r ∧ s.1 ≠ []) (fun s => s.1.length) (v :: r, []) ⟨List.append_nil _, List.cons_ne_nil _ _⟩ (by (repeat (first | exact trivial | refine ⟨by rfl, ?_⟩)); done) (by repeat' (first | exact Cover.nil | exact Take.here | apply Cover.cons | apply Take.there)) ?_
    rintro ⟨a, b⟩ ⟨hab, ha⟩
    dsimp only at hab ha ⊢
    obtain ⟨a', w0, rfl⟩ : ∃ a' w0, a = a' ++ [w0] := ⟨a.dropLast, a.getLast ha, (List.dropLast_concat_getLast _).symm⟩
    have hw0 : w0 ∈ v :: r := by rw [← hab]; simp
    have hwn := hx w0 hw0
    have hlen : (st0 ++ (a' ++ [w0])).length = (st0 ++ a').length + 1 := by simp; omega
    have hl2 : (st0 ++ (a' ++ [w0])).length ≤ 100000 := by
      have := congrArg List.length hab
      rw [hst] at hs
      simp at this hs ⊢
      omega
    refine g_open .here ?_
    rintro _ ⟨sa, sc, rfl⟩
    refine g_own (.there (.there (.there (.there (.there .here))))) (fun _ h _ _ => absurd h (by show (st0 ++ (a' ++ [w0])).length ≠ 0; omega)) ?_
    rintro g cur rfl q1 q2 q3 q4 q5
    dsimp only [tAB] at q1 q2 q3 q4 q5 ⊢
    have hat : cur[0 + (((st0 ++ (a' ++ [w0])).length : Int) - 1).toNat * 1]? = some (.int .i64 (w0 : Int)) := by
      refine own_at1 (k := (st0 ++ a').length) q4 (by rw [hlen]; omega) ?_
      rw [← List.append_assoc, List.map_append, List.getElem?_append_right (by simp)]; simp [eN]
    refine g_block ?_
    refine g_seq ?_
    refine m_begin0 (.fl 0 0 (.fl 1 0 (.fl 2 0 (.fl 3 1 (.fl 4 0 (.fl 5 0 (.fl 6 0 (.fl 7 1 (.fl 8 0 (.fl 9 0 (.fl 10 0 (.fl 11 1 (.fl 12 0 .done))))))))))))) (by kernel_rfl) (by kernel_rfl) ?_
    refine m_float0 rfl (fun _ _ => p_move rfl) rfl ?_
    refine m_float0 rfl (fun _ _ => p_nilCheck rfl) rfl ?_
    refine m_float0 rfl (fun _ _ => p_fieldAddr rfl) rfl ?_
    refine m_float rfl (p_load (by rfl) rfl (by first | (apply Has.own; (repeat' (first | exact Take.here | apply Take.there)); done) | exact Has.ro (by assumption)) (by first | rfl | assumption)) rfl ?_
    refine m_float0 rfl (fun _ _ => p_move rfl) rfl ?_
    refine m_float0 rfl (fun _ _ => p_nilCheck rfl) rfl ?_
    refine m_float0 rfl (fun _ _ => p_fieldAddr rfl) rfl ?_
    refine m_float rfl (p_load (by rfl) rfl (by first | (apply Has.own; (repeat' (first | exact Take.here | apply Take.there)); done) | exact Has.ro (by assumption)) (by first | rfl | assumption)) rfl ?_
    refine m_float0 rfl (fun _ _ => p_len (by rfl) rfl) rfl ?_
    first | refine m_float0 rfl (fun _ _ => p_subi rfl rfl (by omega)) rfl ?_ | refine m_float0 rfl (fun _ _ => p_sub rfl rfl) rfl ?_
    refine m_float0 rfl (fun _ _ => p_indexAddr rfl rfl (by omega) (fun _ => rfl)) rfl ?_
    refine m_float rfl (p_load (by rfl) rfl (Has.own (by repeat' (first | exact Take.here | apply Take.there))) hat) rfl ?_
    refine m_float0 rfl (fun _ _ => p_assign rfl) rfl ?_
    refine m_nil ?_
    refine g_qt ?_
    refine g_seq ?_
    refine m_begin0 (.fl 0 0 (.fl 1 0 (.fl 2 0 (.fl 3 0 (.fl 4 1 (.fl 5 0 (.fl 6 0 (.fl 7 0 (.fl 8 1 (.fl 9 0 (.fl 10 0 (.fl 11 0 (.fl 12 0 (.fl 13 0 (.ef 14 .done))))))))))))))) (by kernel_rfl) (by kernel_rfl) ?_
    refine m_float0 rfl (fun _ _ => p_move rfl) rfl ?_
    refine m_float0 rfl (fun _ _ => p_move rfl) rfl ?_
    refine m_float0 rfl (fun _ _ => p_nilCheck rfl) rfl ?_
    refine m_float0 rfl (fun _ _ => p_fieldAddr rfl) rfl ?_
    refine m_float rfl (p_load (by rfl) rfl (by first | (apply Has.own; (repeat' (first | exact Take.here | apply Take.there)); done) | exact Has.ro (by assumption)) (by first | rfl | assumption)) rfl ?_
    refine m_float0 rfl (fun _ _ => p_move rfl) rfl ?_
    refine m_float0 rfl (fun _ _ => p_nilCheck rfl) rfl ?_
    refine m_float0 rfl (fun _ _ => p_fieldAddr rfl) rfl ?_
    refine m_float rfl (p_load (by rfl) rfl (by first | (apply Has.own; (repeat' (first | exact Take.here | apply Take.there)); done) | exact Has.ro (by assumption)) (by first | rfl | assumption)) rfl ?_
    refine m_float0 rfl (fun _ _ => p_len (by rfl) rfl) rfl ?_
    first | refine m_float0 rfl (fun _ _ => p_subi rfl rfl (by omega)) rfl ?_ | refine m_float0 rfl (fun _ _ => p_sub rfl rfl) rfl ?_
    refine m_float0 rfl (fun _ _ => p_sliceh rfl rfl (by omega)) rfl ?_
    refine m_float0 rfl (fun _ _ => p_nilCheck rfl) rfl ?_
    refine m_float0 rfl (fun _ _ => p_fieldAddr rfl) rfl ?_
    first | refine m_eff0 rfl (e_storeO rfl rfl (by rfl) (by rfl) (by rfl) (by repeat' (first | exact Take.here | apply Take.there)) (by rfl)) (fun _ _ => ?_) | refine m_eff0 rfl (e_store1 (by rfl) rfl rfl rfl (by repeat' (first | exact Take.here | apply Take.there)) (by first | decide | (simp <;> omega) | omega)) (fun _ _ => ?_)
    rintro rfl
    refine ⟨.none (by kernel_rfl), ?_⟩
    refine m_nil ?_
    refine g_qt ?_
    refine g_seq ?_
    refine g_region ?_
    refine g_pure (p_move rfl) rfl ?_
    refine g_pure (p_nilCheck rfl) rfl ?_
    refine g_pure (p_fieldAddr rfl) rfl ?_
    refine g_pure (p_load (by rfl) rfl (by first | (apply Has.own; (repeat' (first | exact Take.here | apply Take.there)); done) | exact Has.ro (by assumption)) (by first | rfl | assumption)) rfl ?_
    refine g_pure (p_move rfl) rfl ?_
    refine g_pure (p_indexAddr rfl rfl (by omega) (fun _ => rfl)) rfl ?_
    refine g_eff0 (e_store1 (by rfl) rfl rfl rfl (by repeat' (first | exact Take.here | apply Take.there)) (by rw [cellsH_len, Int.toNat_natCast]; show 0 + w0 * 1 < B.n; omega)) (fun _ _ => ?_)
    rintro rfl
    refine g_nil ?_
    refine g_qt ?_
    refine g_seq ?_
    refine m_begin0 (.fl 0 0 (.fl 1 0 (.fl 2 0 (.fl 3 1 (.fl 4 0 (.fl 5 0 (.fl 6 0 (.fl 7 0 (.fl 8 1 (.fl 9 0 (.ef 10 .done))))))))))) (by kernel_rfl) (by kernel_rfl) ?_
    refine m_float0 rfl (fun _ _ => p_move rfl) rfl ?_
    refine m_float0 rfl (fun _ _ => p_nilCheck rfl) rfl ?_
    refine m_float0 rfl (fun _ _ => p_fieldAddr rfl) rfl ?_
    refine m_float rfl (p_load (by rfl) rfl (by first | (apply Has.own; (repeat' (first | exact Take.here | apply Take.there)); done) | exact Has.ro (by assumption)) (by first | rfl | assumption)) rfl ?_
    refine m_float0 rfl (fun _ _ => p_move rfl) rfl ?_
    refine m_float0 rfl (fun _ _ => p_move rfl) rfl ?_
    refine m_float0 rfl (fun _ _ => p_nilCheck rfl) rfl ?_
    refine m_float0 rfl (fun _ _ => p_fieldAddr rfl) rfl ?_
    refine m_float rfl (p_load (by rfl) rfl (by first | (apply Has.own; (repeat' (first | exact Take.here | apply Take.there)); done) | exact Has.ro (by assumption)) (by first | rfl | assumption)) rfl ?_
    refine m_float0 rfl (fun _ _ => p_indexAddr rfl rfl (by omega) (fun _ => rfl)) rfl ?_
    refine m_eff0 rfl (e_store1 (by rfl) rfl rfl rfl (by repeat' (first | exact Take.here | apply Take.there)) (by rw [cellsG_len, Int.toNat_natCast]; show 0 + w0 * 1 < B.n; omega)) (fun _ _ => ?_)
    rintro rfl
    refine ⟨.none (by kernel_rfl), ?_⟩
    refine m_nil ?_
    refine g_qt ?_
    refine g_seq ?_
    refine g_region ?_
    refine g_pure (p_move rfl) rfl ?_
    refine g_pure (p_move rfl) rfl ?_
    refine g_pure (p_eql rfl rfl) rfl ?_
    refine g_nil ?_
    refine g_qt ?_
    have hnu : updL t.nu (w0 :: b) t.pa = Gra.upd (updL t.nu b t.pa) w0 t.pa := (upd_updL _ _ _ _).symm
    refine g_weak (B := Blk B.k (.cells (cellsG B.n (updL t.nu (w0 :: b) t.pa)).toArray 3 (0, 0))) (by repeat' (first | exact Take.here | apply Take.there)) (blk_eq (by rw [hnu]; exact cellsG_upd)) ?_
    have hon : updL t.on (w0 :: b) false = Gra.upd (updL t.on b false) w0 false := (upd_updL _ _ _ _).symm
    refine g_weak (B := Blk B.o (.cells (cellsH B.n (updL t.on (w0 :: b) false)).toArray 4 (0, 0))) (by repeat' (first | exact Take.here | apply Take.there)) (blk_eq (by rw [hon]; exact cellsH_upd)) ?_
    rw [show (((st0 ++ (a' ++ [w0])).length : Int) - 1).toNat = (st0 ++ a').length by rw [hlen]; omega]
    refine g_fold (k := (st0 ++ a').length) (cap := sc) (size := 1) (g := g) (cur := cur) (xs := (st0 ++ a').map eN) (by repeat' (first | exact Take.here | apply Take.there)) (by omega) q2 q3 (by
      have := congrArg (List.take (st0 ++ a').length) q4
      rw [List.take_take, Nat.min_eq_left (by omega), ← List.append_assoc, ← List.map_take, List.take_left] at this
      rw [Nat.mul_one]; exact this) ?_
    refine g_close (K := TjK B (tAB t st0 a' (w0 :: b))) ⟨some ⟨g, 0, none⟩, sc, rfl⟩ (by repeat' (first | exact Cover.nil | exact Take.here | apply Cover.cons | apply Take.there)) ?_
    refine g_ifd rfl (fun y => ?_) (fun y => ?_)
    · have hwv : w0 = v := by omega
      have ha0 : a' = [] := by
        cases a' with
        | nil => rfl
        | cons x l =>
          rw [List.cons_append, List.cons_append] at hab
          injection hab with h1 h2
          rw [List.nodup_cons] at hnd
          exact absurd (by rw [← h2, ← hwv]; simp) hnd.1
      subst ha0
      have hwb : w0 :: b = v :: r := hab
      rw [hwb]
      refine g_open (K := TjK B (tAB t st0 [] (v :: r))) .here ?_
      rintro _ ⟨sa2, sc2, rfl⟩
      dsimp only [tAB]
      rw [List.append_nil]
      refine g_exit ?_
      refine g_qb_other rfl ?_
      refine g_qn_exit ?_
      refine g_qb_exit ?_
      refine g_qt ?_
      refine g_region ?_
      refine g_pure (p_move rfl) rfl ?_
      refine g_pure (p_nilCheck rfl) rfl ?_
      refine g_pure (p_fieldAddr rfl) rfl ?_
      refine g_pure (p_load (by rfl) rfl (by first | (apply Has.own; (repeat' (first | exact Take.here | apply Take.there)); done) | exact Has.ro (by assumption)) (by first | rfl | assumption)) rfl ?_
      first | refine g_pure (p_addi rfl rfl (by omega)) rfl ?_ | refine g_pure (p_add rfl rfl) rfl ?_
      refine g_pure (p_nilCheck rfl) rfl ?_
      refine g_pure (p_fieldAddr rfl) rfl ?_
      first | refine g_eff0 (e_storeO rfl rfl (by rfl) (by rfl) (by rfl) (by repeat' (first | exact Take.here | apply Take.there)) (by rfl)) (fun _ _ => ?_) | refine g_eff0 (e_store1 (by rfl) rfl rfl rfl (by repeat' (first | exact Take.here | apply Take.there)) (by first | decide | (simp <;> omega) | omega)) (fun _ _ => ?_)
      rintro rfl
      refine g_nil ?_
      rw [show ((t.pa : Int) + 1) = ((t.pa + 1 : Nat) : Int) by omega]
      refine g_close (K := TjK B (t.close st0 (v :: r))) ⟨sa2, sc2, rfl⟩ (by repeat' (first | exact Cover.nil | exact Take.here | apply Cover.cons | apply Take.there)) ?_
      exact g_postn (rs := []) rfl .nil ⟨rfl, rfl⟩ (by repeat' (first | exact Cover.nil | exact Take.here | apply Cover.cons | apply Take.there))
    · have ha0 : a' ≠ [] := fun h => by
        rw [h] at hab
        injection hab with h1 _
        exact y (by rw [h1])
      refine g_skip ?_
      refine g_qb ?_
      refine g_qn ?_
      exact g_next (a', w0 :: b) (by (repeat (first | exact trivial | refine ⟨by rfl, ?_⟩)); done) (by repeat' (first | exact Cover.nil | exact Take.here | apply Cover.cons | apply Take.there)) ⟨by dsimp only; rw [← hab]; simp, ha0⟩ (by dsimp only; simp)
end Go.Proofs.Ytmefecnjliadaaa
