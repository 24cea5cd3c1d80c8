/- Chapter 37: the model. Conditions: none. -/
import Derived.Test.YtbpgblbhikeglaaT1
namespace Go.Z.Sat
set_option linter.unusedVariables false
set_option linter.unusedSimpArgs false
set_option linter.unusedSectionVars false
open Go Go.Z
def mcells (n : Nat) (V : As) : List Value := (List.range n).map fun i => .bool (decide (V (i + 1) ≠ some false))
theorem mcells_len (n : Nat) (V : As) : (mcells n V).length = n := by simp [mcells]
theorem fill_step {l : List Value} {z v : Value} {n k : Nat} (hl : l.length = n) (hk : k < n) (hv : l[k]? = some v) : (l.take k ++ List.replicate (n - k) z).set k v = l.take (k + 1) ++ List.replicate (n - (k + 1)) z := by
  have e1 : n - k = (n - (k + 1)) + 1 := by omega
  rw [List.set_append_right _ _ (by rw [List.length_take]; omega), List.length_take, Nat.min_eq_left (by omega : k ≤ l.length), Nat.sub_self, e1, List.replicate_succ, List.set_cons_zero, List.take_add_one, hv]
  simp
end Go.Z.Sat
namespace Go.Proofs.Ytbpgblbhikeglaa
open Go Go.Z Go.Z.Sat

theorem model_ok {ρ : Nat → Obj → Prop} {s : Nat} {p : Sp} {V : As} {T : List Int} {X : List Nat} {d : Nat} (hn : p.n ≤ 262144) (hs : Ro ρ (Sv s p V T X d)) :
    Con Try.prog ρ 38 #[.pointer (some ⟨s, 0, none⟩)] [] (fun v H => ∃ a, v = .slice a p.n p.n ∧ H = [OwnSl 4 1 a p.n p.n (mcells p.n V)]) := by
  obtain ⟨va, vc, ta, tc, xa, xc, hp, ⟨_, bv, ov, kv, Tv, fv, hv⟩, _, _⟩ := sv_ro hs
  obtain ⟨v1, v2, v3⟩ := hv (by omega)
  refine con_intro Try.func38 Try.call38 rfl Try.ntmps38 rfl (L := [(0, _)]) rfl fun w hh => ?_
  refine g_seq ?_
  refine g_region ?_
  refine g_pure (p_assign rfl) rfl ?_
  refine g_nil ?_
  refine g_qt ?_
  refine g_seq ?_
  refine g_region ?_
  refine g_pure (p_move rfl) rfl ?_
  refine g_pure (p_nilCheck rfl) rfl ?_
  refine g_pure (p_fieldAddr rfl) rfl ?_
  refine g_pure (p_fieldAddr rfl) rfl ?_
  refine g_pure (p_load (by rfl) rfl (by first | (apply Has.own; (repeat' (first | exact Take.here | apply Take.there)); done) | exact Has.ro (by assumption)) (by first | rfl | assumption)) rfl ?_
  refine g_eff (e_make (by rfl) (by rfl) rfl rfl (by omega) (by dsimp only; omega) (by omega)) rfl (fun _ _ => ?_)
  rintro ⟨b10, rfl, rfl⟩
  refine g_pure (p_assign rfl) rfl ?_
  refine g_nil ?_
  refine g_qt ?_
  refine g_seq ?_
  refine g_seq ?_
  refine g_region ?_
  refine g_pure (p_move rfl) rfl ?_
  refine g_pure (p_len (by rfl) rfl) rfl ?_
  refine g_pure (p_move rfl) rfl ?_
  refine g_nil ?_
  refine g_qt ?_
  refine g_block ?_
  have e0 : ((p.n : Int)).toNat = p.n := by omega
  rw [e0]
  refine g_loop (fun k : Nat => [(0, .pointer (some ⟨s, 0, none⟩)), (3, .slice (some ⟨b10, 0, none⟩) p.n p.n), (12, .int .i64 p.n), (13, .int .i64 k)])
    (fun k => [Blk b10 (.cells ((mcells p.n V).take k ++ List.replicate (p.n - k) (Value.bool false)).toArray 4 (0, 0))]) (fun k => k ≤ p.n) (fun k => p.n - k) 0 (Nat.zero_le _) (by repeat (first | exact trivial | refine ⟨by rfl, ?_⟩)) (by repeat' (first | exact Cover.nil | exact Take.here | apply Cover.cons | apply Take.there)) ?_
  intro k hk
  refine g_seq ?_
  refine g_region ?_
  refine g_pure (p_lss rfl rfl) rfl ?_
  refine g_nil ?_
  refine g_qt ?_
  refine g_seq ?_
  refine g_ifd rfl (fun q => ?_) (fun q => ?_)
  · have x1 : kv[ov + ((k : Int) + 1).toNat * 1]? = some (.int .i64 (vcode (V (k + 1)))) := flat2 v3 (vcells_at V (i := k + 1) (by omega)) (by omega)
    refine g_skip ?_
    refine g_qt ?_
    refine g_seq ?_
    refine g_block ?_
    refine g_seq ?_
    refine g_region ?_
    refine g_pure (p_move rfl) rfl ?_
    refine g_pure (p_assign rfl) rfl ?_
    refine g_nil ?_
    refine g_qt ?_
    refine g_region ?_
    refine g_pure (p_move rfl) rfl ?_
    refine g_pure (p_move rfl) rfl ?_
    refine g_pure (p_move rfl) rfl ?_
    refine g_pure (p_nilCheck rfl) rfl ?_
    refine g_pure (p_fieldAddr rfl) rfl ?_
    refine g_pure (p_load (by rfl) rfl (by first | (apply Has.own; (repeat' (first | exact Take.here | apply Take.there)); done) | exact Has.ro (by assumption)) (by first | rfl | assumption)) rfl ?_
    refine g_pure (p_move rfl) rfl ?_
    first | refine g_pure (p_addi rfl rfl (by omega)) rfl ?_ | refine g_pure (p_add rfl rfl) rfl ?_
    refine g_pure (p_indexAddr rfl rfl (by omega) (fun _ => v1)) rfl ?_
    refine g_pure (p_load (by rfl) rfl (Has.ro v2) x1) rfl ?_
    refine g_pure (p_neq rfl rfl) rfl ?_
    refine g_pure (p_indexAddr rfl rfl (by omega) (fun _ => rfl)) rfl ?_
    refine g_eff0 (e_store1 (by rfl) rfl rfl rfl (by repeat' (first | exact Take.here | apply Take.there)) (by simp [mcells_len]; omega)) (fun _ _ => ?_)
    rintro rfl
    refine g_nil ?_
    refine g_qb ?_
    refine g_qt ?_
    refine g_region ?_
    first | refine g_pure (p_addi rfl rfl (by omega)) rfl ?_ | refine g_pure (p_add rfl rfl) rfl ?_
    refine g_pure (p_move rfl) rfl ?_
    refine g_nil ?_
    refine g_qn ?_
    have e1 : 0 + ((k : Int)).toNat * 1 = k := by omega
    have e2 : (!decide (vcode (V (k + 1)) = 2)) = decide (V (k + 1) ≠ some false) := by
      cases V (k + 1) with
      | none => rfl
      | some x => cases x <;> rfl
    have hset := fill_step (l := mcells p.n V) (z := .bool false) (mcells_len _ _) (show k < p.n by omega) (v := .bool (!decide (vcode (V (k + 1)) = 2))) (by rw [e2]; unfold mcells; rw [List.getElem?_map, List.getElem?_range (by omega)]; rfl)
    refine g_sat (H' := [Blk b10 (.cells ((mcells p.n V).take (k + 1) ++ List.replicate (p.n - (k + 1)) (Value.bool false)).toArray 4 (0, 0))]) (fun h hs => ?_) ?_
    · rw [← hset]
      have hs' : Sat [Blk b10 (.cells (((mcells p.n V).take k ++ List.replicate (p.n - k) (Value.bool false)).set (0 + ((k : Int)).toNat * 1) (.bool (!decide (vcode (V (k + 1)) = 2)))).toArray 4 (0, 0))] h := hs
      rw [e1] at hs'; exact hs'
    exact g_next (k + 1) (by repeat (first | exact trivial | refine ⟨by rfl, ?_⟩)) (by repeat' (first | exact Cover.nil | exact Take.here | apply Cover.cons | apply Take.there)) (by omega) (by omega)
  · have hke : k = p.n := by omega
    subst hke
    refine g_exit ?_
    refine g_qt_exit ?_
    refine g_qn_exit ?_
    refine g_qb_exit ?_
    refine g_qt ?_
    refine g_seq ?_
    refine g_region ?_
    refine g_pure (p_move rfl) rfl ?_
    refine g_pure (p_assign rfl) rfl ?_
    refine g_nil ?_
    refine g_qt ?_
    refine g_ret ?_
    rw [Nat.sub_self, List.replicate_zero, List.append_nil, List.take_of_length_le (by rw [mcells_len]; omega)]
    refine g_fold (k := p.n) (cap := p.n) (size := 1) (xs := mcells p.n V) .here (Nat.le_refl _) (by omega) (by rw [mcells_len]; omega) (List.take_of_length_le (by rw [mcells_len]; omega)) ?_
    exact g_post (rs := [.tmp 2]) rfl (.tmp rfl .nil) ⟨_, rfl, rfl⟩ (by repeat' (first | exact Cover.nil | exact Take.here | apply Cover.cons | apply Take.there))
end Go.Proofs.Ytbpgblbhikeglaa
