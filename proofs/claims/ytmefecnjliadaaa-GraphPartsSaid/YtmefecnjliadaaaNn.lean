/- Chapter 4: the state of the search for components is made. Conditions: none. -/
import Derived.Test.YtmefecnjliadaaaNm
import Derived.Test.YtmefecnjliadaaaNo
namespace Go.Z.Gra
set_option maxRecDepth 8000
set_option linter.unusedVariables false
set_option linter.unusedSimpArgs false
set_option linter.unusedSectionVars false
open Go Go.Z Go.Z.Gr
def tj0 : Tj := ⟨fun _ => 0, fun _ => 0, fun _ => false, fun _ => 0, [], 0, 0⟩
theorem tj0_ti (n : Nat) (N : Nat → List Nat) : TI n N tj0 [] :=
  ⟨rfl, .nil, fun x => ⟨fun h => Bool.noConfusion h, fun h => absurd h List.not_mem_nil⟩, fun x h => absurd h List.not_mem_nil, fun x => Nat.le_refl _, .nil, fun x h => absurd rfl h, fun g h => absurd h List.not_mem_nil, trivial,
    fun x h => absurd rfl h, fun x h => absurd rfl h, fun x y h => absurd rfl h⟩
theorem tj0_xi (n : Nat) : XI n tj0 := by
  refine ⟨?_, Nat.zero_le _⟩
  show 0 + unv n (fun _ => 0) = n
  unfold unv
  rw [Nat.zero_add, List.countP_eq_length.2 (fun x _ => decide_eq_true rfl), List.length_range]
/-- what graph.Parts answers -/
noncomputable def partsA (n : Int) (E : Ed) : List (List Int) × Int := if validP n E [] then (partsP E n.toNat, 0) else ([], 2)
theorem cellsH_zero (n : Nat) : cellsH n (fun _ => false) = List.replicate n (.bool false) := by
  unfold cellsH
  rw [List.map_const', List.length_range]
theorem gcells (k : Nat) (nu : Nat → Nat) : (groups k nu).map (fun l : List Nat => l.map eN) = ((groups k nu).map fun l : List Nat => l.map fun x : Nat => (x : Int)).map fun l : List Int => l.map Z.encI := by
  rw [List.map_map]
  refine List.map_congr_left fun l _ => ?_
  show l.map eN = (l.map fun x : Nat => (x : Int)).map Z.encI
  rw [List.map_map]; rfl
theorem cellsG_plc {m : Nat} {g g' : Nat → Nat} {u x : Nat} (hu : u < m) (hx : g' u = x) (h : ∀ c, c ≠ u → g' c = g c) : (cellsG m g).set (0 + (u : Int).toNat * 1) (.int .i64 (x : Int)) = cellsG m g' := by
  rw [Int.toNat_natCast, Nat.zero_add, Nat.mul_one]
  exact cellsG_set (by rw [hx]) fun i _ hi => h i hi
theorem groups_row {k : Nat} {nu : Nat → Nat} {i : Nat} (hi : i < (groups k nu).length) : (((groups k nu).map (fun l : List Nat => l.map eN))[i]'(by simpa using hi)).length ≤ k := by
  rw [List.getElem_map, List.length_map]
  unfold groups at hi ⊢
  rw [List.getElem_map]
  exact grp_len _ _ _
end Go.Z.Gra
namespace Go.Proofs.Ytmefecnjliadaaa
set_option maxRecDepth 8000
set_option linter.unusedVariables false
set_option linter.unusedSimpArgs false
set_option linter.unusedSectionVars false
open Go Go.Z Go.Z.Gr Go.Z.Gra
set_option maxHeartbeats 4000000 in
theorem parts_ok {ρ : Nat → Obj → Prop} (n : Int) (a : Option Addr) (c : Nat) (E : Ed) (hE : EdR ρ a E) (hlE : E.length ≤ 1000000) :
    Con Try.prog ρ 18 #[.int .i64 n, .slice a E.length c] [] (fun r H => ∃ a' c', r = .tuple #[.slice a' (partsA n E).1.length c', .int .i64 (partsA n E).2] ∧ H = [Own2 24 3 a' c' ((partsA n E).1.map fun l => l.map Z.encI)]) := by
  refine con_intro Try.func18 Try.call18 rfl Try.ntmps18 rfl (L := [(0, _), (1, _)]) rfl fun w hh => ?_
  refine g_seq ?_
  refine g_region ?_
  refine g_pure (p_assign rfl) rfl ?_
  refine g_pure (p_assign rfl) rfl ?_
  refine g_nil ?_
  refine g_qt ?_
  refine g_seq ?_
  refine g_seq ?_
  refine g_region ?_
  refine g_pure (p_move rfl) rfl ?_
  refine g_pure (p_move rfl) rfl ?_
  refine g_call (Hin := []) (Hr := ?hr1) (R := ?rr1) rfl rfl rfl ?hin1 ?hc1 ?hk1
  case hin1 => repeat' (first | exact Cover.nil | exact Take.here | apply Cover.cons | apply Take.there)
  case hc1 => intro ρ' hρ hR; exact valid_ok n a c E (hE.mono hρ) (by omega) none 0 [] rsl_nil (by decide)
  rintro _ _ ⟨rfl, rfl⟩
  refine g_pure (p_not rfl) rfl ?_
  refine g_nil ?_
  refine g_qt ?_
  cases hv : validP n E [] with
  | false =>
    refine g_ift rfl ?_
    refine g_seq ?_
    refine g_region ?_
    refine g_pure (p_assign rfl) rfl ?_
    refine g_pure (p_assign rfl) rfl ?_
    refine g_nil ?_
    refine g_qt ?_
    refine g_ret ?_
    refine g_qt_ret ?_
    have hA : partsA n E = ([], 2) := by unfold partsA; rw [if_neg (by rw [hv]; simp)]
    rw [hA]
    refine g_ownnil (e := 24) (size := 1) ?_
    refine g_nils (eo := 24) (ei := 3) (k := 0) .here ?_
    exact g_post (rs := [.tmp 4, .tmp 5]) rfl (.tmp rfl (.tmp rfl .nil)) ⟨none, 0, rfl, rfl⟩ (by repeat' (first | exact Cover.nil | exact Take.here | apply Cover.cons | apply Take.there))
  | true =>
    have hn0 : 0 ≤ n ∧ n ≤ 4096 := by
      have := hv
      unfold validP at this
      rw [Bool.and_eq_true, Bool.and_eq_true] at this
      exact of_decide_eq_true this.1.1
    obtain ⟨m, rfl⟩ : ∃ m : Nat, n = m := ⟨n.toNat, by omega⟩
    obtain ⟨hm, ho⟩ := valid_edok hv
    refine g_iff rfl ?_
    refine g_skip ?_
    refine g_qt ?_
    refine g_seq ?_
    refine g_join (fun y : Nat × Nat × Nat × Nat × Nat × Option Addr × Nat => [(0, .int .i64 m), (4, .slice none 0 0), (5, .int .i64 0), (6, .pointer (some ⟨y.1, 0, none⟩))])
      (fun y => [Blk y.1 (.cells [.slice y.2.2.2.2.2.1 m y.2.2.2.2.2.2, .slice (some ⟨y.2.1, 0, none⟩) (m : Int).toNat (m : Int).toNat, .slice (some ⟨y.2.2.1, 0, none⟩) (m : Int).toNat (m : Int).toNat, .slice (some ⟨y.2.2.2.1, 0, none⟩) (m : Int).toNat (m : Int).toNat, .slice none 0 0, .int .i64 0, .slice (some ⟨y.2.2.2.2.1, 0, none⟩) (m : Int).toNat (m : Int).toNat, .int .i64 0].toArray 57 (0, 0)),
        Blk y.2.1 (.cells (List.replicate (m : Int).toNat (.int .i64 0)).toArray 3 (0, 0)), Blk y.2.2.1 (.cells (List.replicate (m : Int).toNat (.int .i64 0)).toArray 3 (0, 0)), Blk y.2.2.2.1 (.cells (List.replicate (m : Int).toNat (.bool false)).toArray 4 (0, 0)), Blk y.2.2.2.2.1 (.cells (List.replicate (m : Int).toNat (.int .i64 0)).toArray 3 (0, 0)),
        Own2 24 3 y.2.2.2.2.2.1 y.2.2.2.2.2.2 (rowsN m fun v => nbP E v)]) (fun _ => True) ?_ ?_
    · refine m_begin0 (.fl 0 0 (.fl 1 0 (.fl 3 0 (.fl 5 0 (.fl 7 0 (.fl 9 0 (.or (.ef 2 (.or (.ef 4 (.or (.ef 6 (.or (.ef 8 (.ef 10 (.fl 11 0 (.ef 12 (.fl 13 0 .done))))) (.ef 10 (.ef 8 (.fl 11 0 (.ef 12 (.fl 13 0 .done))))))) (.or (.ef 8 (.or (.ef 6 (.ef 10 (.fl 11 0 (.ef 12 (.fl 13 0 .done))))) (.ef 10 (.ef 6 (.fl 11 0 (.ef 12 (.fl 13 0 .done))))))) (.ef 10 (.or (.ef 6 (.ef 8 (.fl 11 0 (.ef 12 (.fl 13 0 .done))))) (.ef 8 (.ef 6 (.fl 11 0 (.ef 12 (.fl 13 0 .done)))))))))) (.or (.ef 6 (.or (.ef 4 (.or (.ef 8 (.ef 10 (.fl 11 0 (.ef 12 (.fl 13 0 .done))))) (.ef 10 (.ef 8 (.fl 11 0 (.ef 12 (.fl 13 0 .done))))))) (.or (.ef 8 (.or (.ef 4 (.ef 10 (.fl 11 0 (.ef 12 (.fl 13 0 .done))))) (.ef 10 (.ef 4 (.fl 11 0 (.ef 12 (.fl 13 0 .done))))))) (.ef 10 (.or (.ef 4 (.ef 8 (.fl 11 0 (.ef 12 (.fl 13 0 .done))))) (.ef 8 (.ef 4 (.fl 11 0 (.ef 12 (.fl 13 0 .done)))))))))) (.or (.ef 8 (.or (.ef 4 (.or (.ef 6 (.ef 10 (.fl 11 0 (.ef 12 (.fl 13 0 .done))))) (.ef 10 (.ef 6 (.fl 11 0 (.ef 12 (.fl 13 0 .done))))))) (.or (.ef 6 (.or (.ef 4 (.ef 10 (.fl 11 0 (.ef 12 (.fl 13 0 .done))))) (.ef 10 (.ef 4 (.fl 11 0 (.ef 12 (.fl 13 0 .done))))))) (.ef 10 (.or (.ef 4 (.ef 6 (.fl 11 0 (.ef 12 (.fl 13 0 .done))))) (.ef 6 (.ef 4 (.fl 11 0 (.ef 12 (.fl 13 0 .done)))))))))) (.ef 10 (.or (.ef 4 (.or (.ef 6 (.ef 8 (.fl 11 0 (.ef 12 (.fl 13 0 .done))))) (.ef 8 (.ef 6 (.fl 11 0 (.ef 12 (.fl 13 0 .done))))))) (.or (.ef 6 (.or (.ef 4 (.ef 8 (.fl 11 0 (.ef 12 (.fl 13 0 .done))))) (.ef 8 (.ef 4 (.fl 11 0 (.ef 12 (.fl 13 0 .done))))))) (.ef 8 (.or (.ef 4 (.ef 6 (.fl 11 0 (.ef 12 (.fl 13 0 .done))))) (.ef 6 (.ef 4 (.fl 11 0 (.ef 12 (.fl 13 0 .done)))))))))))))) (.or (.ef 4 (.or (.ef 2 (.or (.ef 6 (.or (.ef 8 (.ef 10 (.fl 11 0 (.ef 12 (.fl 13 0 .done))))) (.ef 10 (.ef 8 (.fl 11 0 (.ef 12 (.fl 13 0 .done))))))) (.or (.ef 8 (.or (.ef 6 (.ef 10 (.fl 11 0 (.ef 12 (.fl 13 0 .done))))) (.ef 10 (.ef 6 (.fl 11 0 (.ef 12 (.fl 13 0 .done))))))) (.ef 10 (.or (.ef 6 (.ef 8 (.fl 11 0 (.ef 12 (.fl 13 0 .done))))) (.ef 8 (.ef 6 (.fl 11 0 (.ef 12 (.fl 13 0 .done)))))))))) (.or (.ef 6 (.or (.ef 2 (.or (.ef 8 (.ef 10 (.fl 11 0 (.ef 12 (.fl 13 0 .done))))) (.ef 10 (.ef 8 (.fl 11 0 (.ef 12 (.fl 13 0 .done))))))) (.or (.ef 8 (.or (.ef 2 (.ef 10 (.fl 11 0 (.ef 12 (.fl 13 0 .done))))) (.ef 10 (.ef 2 (.fl 11 0 (.ef 12 (.fl 13 0 .done))))))) (.ef 10 (.or (.ef 2 (.ef 8 (.fl 11 0 (.ef 12 (.fl 13 0 .done))))) (.ef 8 (.ef 2 (.fl 11 0 (.ef 12 (.fl 13 0 .done)))))))))) (.or (.ef 8 (.or (.ef 2 (.or (.ef 6 (.ef 10 (.fl 11 0 (.ef 12 (.fl 13 0 .done))))) (.ef 10 (.ef 6 (.fl 11 0 (.ef 12 (.fl 13 0 .done))))))) (.or (.ef 6 (.or (.ef 2 (.ef 10 (.fl 11 0 (.ef 12 (.fl 13 0 .done))))) (.ef 10 (.ef 2 (.fl 11 0 (.ef 12 (.fl 13 0 .done))))))) (.ef 10 (.or (.ef 2 (.ef 6 (.fl 11 0 (.ef 12 (.fl 13 0 .done))))) (.ef 6 (.ef 2 (.fl 11 0 (.ef 12 (.fl 13 0 .done)))))))))) (.ef 10 (.or (.ef 2 (.or (.ef 6 (.ef 8 (.fl 11 0 (.ef 12 (.fl 13 0 .done))))) (.ef 8 (.ef 6 (.fl 11 0 (.ef 12 (.fl 13 0 .done))))))) (.or (.ef 6 (.or (.ef 2 (.ef 8 (.fl 11 0 (.ef 12 (.fl 13 0 .done))))) (.ef 8 (.ef 2 (.fl 11 0 (.ef 12 (.fl 13 0 .done))))))) (.ef 8 (.or (.ef 2 (.ef 6 (.fl 11 0 (.ef 12 (.fl 13 0 .done))))) (.ef 6 (.ef 2 (.fl 11 0 (.ef 12 (.fl 13 0 .done)))))))))))))) (.or (.ef 6 (.or (.ef 2 (.or (.ef 4 (.or (.ef 8 (.ef 10 (.fl 11 0 (.ef 12 (.fl 13 0 .done))))) (.ef 10 (.ef 8 (.fl 11 0 (.ef 12 (.fl 13 0 .done))))))) (.or (.ef 8 (.or (.ef 4 (.ef 10 (.fl 11 0 (.ef 12 (.fl 13 0 .done))))) (.ef 10 (.ef 4 (.fl 11 0 (.ef 12 (.fl 13 0 .done))))))) (.ef 10 (.or (.ef 4 (.ef 8 (.fl 11 0 (.ef 12 (.fl 13 0 .done))))) (.ef 8 (.ef 4 (.fl 11 0 (.ef 12 (.fl 13 0 .done)))))))))) (.or (.ef 4 (.or (.ef 2 (.or (.ef 8 (.ef 10 (.fl 11 0 (.ef 12 (.fl 13 0 .done))))) (.ef 10 (.ef 8 (.fl 11 0 (.ef 12 (.fl 13 0 .done))))))) (.or (.ef 8 (.or (.ef 2 (.ef 10 (.fl 11 0 (.ef 12 (.fl 13 0 .done))))) (.ef 10 (.ef 2 (.fl 11 0 (.ef 12 (.fl 13 0 .done))))))) (.ef 10 (.or (.ef 2 (.ef 8 (.fl 11 0 (.ef 12 (.fl 13 0 .done))))) (.ef 8 (.ef 2 (.fl 11 0 (.ef 12 (.fl 13 0 .done)))))))))) (.or (.ef 8 (.or (.ef 2 (.or (.ef 4 (.ef 10 (.fl 11 0 (.ef 12 (.fl 13 0 .done))))) (.ef 10 (.ef 4 (.fl 11 0 (.ef 12 (.fl 13 0 .done))))))) (.or (.ef 4 (.or (.ef 2 (.ef 10 (.fl 11 0 (.ef 12 (.fl 13 0 .done))))) (.ef 10 (.ef 2 (.fl 11 0 (.ef 12 (.fl 13 0 .done))))))) (.ef 10 (.or (.ef 2 (.ef 4 (.fl 11 0 (.ef 12 (.fl 13 0 .done))))) (.ef 4 (.ef 2 (.fl 11 0 (.ef 12 (.fl 13 0 .done)))))))))) (.ef 10 (.or (.ef 2 (.or (.ef 4 (.ef 8 (.fl 11 0 (.ef 12 (.fl 13 0 .done))))) (.ef 8 (.ef 4 (.fl 11 0 (.ef 12 (.fl 13 0 .done))))))) (.or (.ef 4 (.or (.ef 2 (.ef 8 (.fl 11 0 (.ef 12 (.fl 13 0 .done))))) (.ef 8 (.ef 2 (.fl 11 0 (.ef 12 (.fl 13 0 .done))))))) (.ef 8 (.or (.ef 2 (.ef 4 (.fl 11 0 (.ef 12 (.fl 13 0 .done))))) (.ef 4 (.ef 2 (.fl 11 0 (.ef 12 (.fl 13 0 .done)))))))))))))) (.or (.ef 8 (.or (.ef 2 (.or (.ef 4 (.or (.ef 6 (.ef 10 (.fl 11 0 (.ef 12 (.fl 13 0 .done))))) (.ef 10 (.ef 6 (.fl 11 0 (.ef 12 (.fl 13 0 .done))))))) (.or (.ef 6 (.or (.ef 4 (.ef 10 (.fl 11 0 (.ef 12 (.fl 13 0 .done))))) (.ef 10 (.ef 4 (.fl 11 0 (.ef 12 (.fl 13 0 .done))))))) (.ef 10 (.or (.ef 4 (.ef 6 (.fl 11 0 (.ef 12 (.fl 13 0 .done))))) (.ef 6 (.ef 4 (.fl 11 0 (.ef 12 (.fl 13 0 .done)))))))))) (.or (.ef 4 (.or (.ef 2 (.or (.ef 6 (.ef 10 (.fl 11 0 (.ef 12 (.fl 13 0 .done))))) (.ef 10 (.ef 6 (.fl 11 0 (.ef 12 (.fl 13 0 .done))))))) (.or (.ef 6 (.or (.ef 2 (.ef 10 (.fl 11 0 (.ef 12 (.fl 13 0 .done))))) (.ef 10 (.ef 2 (.fl 11 0 (.ef 12 (.fl 13 0 .done))))))) (.ef 10 (.or (.ef 2 (.ef 6 (.fl 11 0 (.ef 12 (.fl 13 0 .done))))) (.ef 6 (.ef 2 (.fl 11 0 (.ef 12 (.fl 13 0 .done)))))))))) (.or (.ef 6 (.or (.ef 2 (.or (.ef 4 (.ef 10 (.fl 11 0 (.ef 12 (.fl 13 0 .done))))) (.ef 10 (.ef 4 (.fl 11 0 (.ef 12 (.fl 13 0 .done))))))) (.or (.ef 4 (.or (.ef 2 (.ef 10 (.fl 11 0 (.ef 12 (.fl 13 0 .done))))) (.ef 10 (.ef 2 (.fl 11 0 (.ef 12 (.fl 13 0 .done))))))) (.ef 10 (.or (.ef 2 (.ef 4 (.fl 11 0 (.ef 12 (.fl 13 0 .done))))) (.ef 4 (.ef 2 (.fl 11 0 (.ef 12 (.fl 13 0 .done)))))))))) (.ef 10 (.or (.ef 2 (.or (.ef 4 (.ef 6 (.fl 11 0 (.ef 12 (.fl 13 0 .done))))) (.ef 6 (.ef 4 (.fl 11 0 (.ef 12 (.fl 13 0 .done))))))) (.or (.ef 4 (.or (.ef 2 (.ef 6 (.fl 11 0 (.ef 12 (.fl 13 0 .done))))) (.ef 6 (.ef 2 (.fl 11 0 (.ef 12 (.fl 13 0 .done))))))) (.ef 6 (.or (.ef 2 (.ef 4 (.fl 11 0 (.ef 12 (.fl 13 0 .done))))) (.ef 4 (.ef 2 (.fl 11 0 (.ef 12 (.fl 13 0 .done)))))))))))))) (.ef 10 (.or (.ef 2 (.or (.ef 4 (.or (.ef 6 (.ef 8 (.fl 11 0 (.ef 12 (.fl 13 0 .done))))) (.ef 8 (.ef 6 (.fl 11 0 (.ef 12 (.fl 13 0 .done))))))) (.or (.ef 6 (.or (.ef 4 (.ef 8 (.fl 11 0 (.ef 12 (.fl 13 0 .done))))) (.ef 8 (.ef 4 (.fl 11 0 (.ef 12 (.fl 13 0 .done))))))) (.ef 8 (.or (.ef 4 (.ef 6 (.fl 11 0 (.ef 12 (.fl 13 0 .done))))) (.ef 6 (.ef 4 (.fl 11 0 (.ef 12 (.fl 13 0 .done)))))))))) (.or (.ef 4 (.or (.ef 2 (.or (.ef 6 (.ef 8 (.fl 11 0 (.ef 12 (.fl 13 0 .done))))) (.ef 8 (.ef 6 (.fl 11 0 (.ef 12 (.fl 13 0 .done))))))) (.or (.ef 6 (.or (.ef 2 (.ef 8 (.fl 11 0 (.ef 12 (.fl 13 0 .done))))) (.ef 8 (.ef 2 (.fl 11 0 (.ef 12 (.fl 13 0 .done))))))) (.ef 8 (.or (.ef 2 (.ef 6 (.fl 11 0 (.ef 12 (.fl 13 0 .done))))) (.ef 6 (.ef 2 (.fl 11 0 (.ef 12 (.fl 13 0 .done)))))))))) (.or (.ef 6 (.or (.ef 2 (.or (.ef 4 (.ef 8 (.fl 11 0 (.ef 12 (.fl 13 0 .done))))) (.ef 8 (.ef 4 (.fl 11 0 (.ef 12 (.fl 13 0 .done))))))) (.or (.ef 4 (.or (.ef 2 (.ef 8 (.fl 11 0 (.ef 12 (.fl 13 0 .done))))) (.ef 8 (.ef 2 (.fl 11 0 (.ef 12 (.fl 13 0 .done))))))) (.ef 8 (.or (.ef 2 (.ef 4 (.fl 11 0 (.ef 12 (.fl 13 0 .done))))) (.ef 4 (.ef 2 (.fl 11 0 (.ef 12 (.fl 13 0 .done)))))))))) (.ef 8 (.or (.ef 2 (.or (.ef 4 (.ef 6 (.fl 11 0 (.ef 12 (.fl 13 0 .done))))) (.ef 6 (.ef 4 (.fl 11 0 (.ef 12 (.fl 13 0 .done))))))) (.or (.ef 4 (.or (.ef 2 (.ef 6 (.fl 11 0 (.ef 12 (.fl 13 0 .done))))) (.ef 6 (.ef 2 (.fl 11 0 (.ef 12 (.fl 13 0 .done))))))) (.ef 6 (.or (.ef 2 (.ef 4 (.fl 11 0 (.ef 12 (.fl 13 0 .done))))) (.ef 4 (.ef 2 (.fl 11 0 (.ef 12 (.fl 13 0 .done)))))))))))))))))))))))) (by kernel_rfl) (by kernel_rfl) ?_
      refine m_float0 rfl (fun _ _ => p_move rfl) rfl ?_
      refine m_float0 rfl (fun _ _ => p_move rfl) rfl ?_
      refine m_float0 rfl (fun _ _ => p_move rfl) rfl ?_
      refine m_float0 rfl (fun _ _ => p_move rfl) rfl ?_
      refine m_float0 rfl (fun _ _ => p_move rfl) rfl ?_
      refine m_float0 rfl (fun _ _ => p_move rfl) rfl ?_
      refine m_or ?_ ?_
      · refine m_call (Hin := []) (Hr := ?hr2) (R := ?rr2) rfl wantedN rfl rfl rfl ?hin2 ?hc2 ?hk2
        case hin2 => repeat' (first | exact Cover.nil | exact Take.here | apply Cover.cons | apply Take.there)
        case hc2 => intro ρ' hρ hR; exact neigh_ok m a c E (hE.mono hρ) hlE hm ho
        rintro _ _ ⟨na, nc, rfl, rfl⟩
        refine ⟨.none (by kernel_rfl), ?_⟩
        refine m_or ?_ ?_
        · refine m_eff rfl (e_make (by rfl) (by rfl) rfl rfl (by omega) (by first | omega | (dsimp only; omega)) (by omega)) rfl (fun _ _ => ?_)
          rintro ⟨b20, rfl, rfl⟩
          refine ⟨.none (by kernel_rfl), ?_⟩
          refine m_or ?_ ?_
          · refine m_eff rfl (e_make (by rfl) (by rfl) rfl rfl (by omega) (by first | omega | (dsimp only; omega)) (by omega)) rfl (fun _ _ => ?_)
            rintro ⟨b22, rfl, rfl⟩
            refine ⟨.none (by kernel_rfl), ?_⟩
            refine m_or ?_ ?_
            · refine m_eff rfl (e_make (by rfl) (by rfl) rfl rfl (by omega) (by first | omega | (dsimp only; omega)) (by omega)) rfl (fun _ _ => ?_)
              rintro ⟨b24, rfl, rfl⟩
              refine ⟨.none (by kernel_rfl), ?_⟩
              refine m_eff rfl (e_make (by rfl) (by rfl) rfl rfl (by omega) (by first | omega | (dsimp only; omega)) (by omega)) rfl (fun _ _ => ?_)
              rintro ⟨b26, rfl, rfl⟩
              refine ⟨.none (by kernel_rfl), ?_⟩
              refine m_float0 rfl (fun _ _ => p_build (by rfl) rfl (by rfl)) rfl ?_
              refine m_eff rfl (e_box rfl (by rfl)) rfl (fun _ _ => ?_)
              rintro ⟨b28, rfl, rfl⟩
              refine ⟨.none (by kernel_rfl), ?_⟩
              refine m_float0 rfl (fun _ _ => p_assign rfl) rfl ?_
              refine m_nil ?_
              refine g_qn ?_
              exact g_joined (b28, b20, b22, b24, b26, na, nc) (by (repeat (first | exact trivial | refine ⟨by rfl, ?_⟩)); done) (by repeat' (first | exact Cover.nil | exact Take.here | apply Cover.cons | apply Take.there)) trivial
            refine m_eff rfl (e_make (by rfl) (by rfl) rfl rfl (by omega) (by first | omega | (dsimp only; omega)) (by omega)) rfl (fun _ _ => ?_)
            rintro ⟨b26, rfl, rfl⟩
            refine ⟨.none (by kernel_rfl), ?_⟩
            refine m_eff rfl (e_make (by rfl) (by rfl) rfl rfl (by omega) (by first | omega | (dsimp only; omega)) (by omega)) rfl (fun _ _ => ?_)
            rintro ⟨b24, rfl, rfl⟩
            refine ⟨.none (by kernel_rfl), ?_⟩
            refine m_float0 rfl (fun _ _ => p_build (by rfl) rfl (by rfl)) rfl ?_
            refine m_eff rfl (e_box rfl (by rfl)) rfl (fun _ _ => ?_)
            rintro ⟨b28, rfl, rfl⟩
            refine ⟨.none (by kernel_rfl), ?_⟩
            refine m_float0 rfl (fun _ _ => p_assign rfl) rfl ?_
            refine m_nil ?_
            refine g_qn ?_
            exact g_joined (b28, b20, b22, b24, b26, na, nc) (by (repeat (first | exact trivial | refine ⟨by rfl, ?_⟩)); done) (by repeat' (first | exact Cover.nil | exact Take.here | apply Cover.cons | apply Take.there)) trivial
          refine m_or ?_ ?_
          · refine m_eff rfl (e_make (by rfl) (by rfl) rfl rfl (by omega) (by first | omega | (dsimp only; omega)) (by omega)) rfl (fun _ _ => ?_)
            rintro ⟨b24, rfl, rfl⟩
            refine ⟨.none (by kernel_rfl), ?_⟩
            refine m_or ?_ ?_
            · refine m_eff rfl (e_make (by rfl) (by rfl) rfl rfl (by omega) (by first | omega | (dsimp only; omega)) (by omega)) rfl (fun _ _ => ?_)
              rintro ⟨b22, rfl, rfl⟩
              refine ⟨.none (by kernel_rfl), ?_⟩
              refine m_eff rfl (e_make (by rfl) (by rfl) rfl rfl (by omega) (by first | omega | (dsimp only; omega)) (by omega)) rfl (fun _ _ => ?_)
              rintro ⟨b26, rfl, rfl⟩
              refine ⟨.none (by kernel_rfl), ?_⟩
              refine m_float0 rfl (fun _ _ => p_build (by rfl) rfl (by rfl)) rfl ?_
              refine m_eff rfl (e_box rfl (by rfl)) rfl (fun _ _ => ?_)
              rintro ⟨b28, rfl, rfl⟩
              refine ⟨.none (by kernel_rfl), ?_⟩
              refine m_float0 rfl (fun _ _ => p_assign rfl) rfl ?_
              refine m_nil ?_
              refine g_qn ?_
              exact g_joined (b28, b20, b22, b24, b26, na, nc) (by (repeat (first | exact trivial | refine ⟨by rfl, ?_⟩)); done) (by repeat' (first | exact Cover.nil | exact Take.here | apply Cover.cons | apply Take.there)) trivial
            refine m_eff rfl (e_make (by rfl) (by rfl) rfl rfl (by omega) (by first | omega | (dsimp only; omega)) (by omega)) rfl (fun _ _ => ?_)
            rintro ⟨b26, rfl, rfl⟩
            refine ⟨.none (by kernel_rfl), ?_⟩
            refine m_eff rfl (e_make (by rfl) (by rfl) rfl rfl (by omega) (by first | omega | (dsimp only; omega)) (by omega)) rfl (fun _ _ => ?_)
            rintro ⟨b22, rfl, rfl⟩
            refine ⟨.none (by kernel_rfl), ?_⟩
            refine m_float0 rfl (fun _ _ => p_build (by rfl) rfl (by rfl)) rfl ?_
            refine m_eff rfl (e_box rfl (by rfl)) rfl (fun _ _ => ?_)
            rintro ⟨b28, rfl, rfl⟩
            refine ⟨.none (by kernel_rfl), ?_⟩
            refine m_float0 rfl (fun _ _ => p_assign rfl) rfl ?_
            refine m_nil ?_
            refine g_qn ?_
            exact g_joined (b28, b20, b22, b24, b26, na, nc) (by (repeat (first | exact trivial | refine ⟨by rfl, ?_⟩)); done) (by repeat' (first | exact Cover.nil | exact Take.here | apply Cover.cons | apply Take.there)) trivial
          refine m_eff rfl (e_make (by rfl) (by rfl) rfl rfl (by omega) (by first | omega | (dsimp only; omega)) (by omega)) rfl (fun _ _ => ?_)
          rintro ⟨b26, rfl, rfl⟩
          refine ⟨.none (by kernel_rfl), ?_⟩
          refine m_or ?_ ?_
          · refine m_eff rfl (e_make (by rfl) (by rfl) rfl rfl (by omega) (by first | omega | (dsimp only; omega)) (by omega)) rfl (fun _ _ => ?_)
            rintro ⟨b22, rfl, rfl⟩
            refine ⟨.none (by kernel_rfl), ?_⟩
            refine m_eff rfl (e_make (by rfl) (by rfl) rfl rfl (by omega) (by first | omega | (dsimp only; omega)) (by omega)) rfl (fun _ _ => ?_)
            rintro ⟨b24, rfl, rfl⟩
            refine ⟨.none (by kernel_rfl), ?_⟩
            refine m_float0 rfl (fun _ _ => p_build (by rfl) rfl (by rfl)) rfl ?_
            refine m_eff rfl (e_box rfl (by rfl)) rfl (fun _ _ => ?_)
            rintro ⟨b28, rfl, rfl⟩
            refine ⟨.none (by kernel_rfl), ?_⟩
            refine m_float0 rfl (fun _ _ => p_assign rfl) rfl ?_
            refine m_nil ?_
            refine g_qn ?_
            exact g_joined (b28, b20, b22, b24, b26, na, nc) (by (repeat (first | exact trivial | refine ⟨by rfl, ?_⟩)); done) (by repeat' (first | exact Cover.nil | exact Take.here | apply Cover.cons | apply Take.there)) trivial
          refine m_eff rfl (e_make (by rfl) (by rfl) rfl rfl (by omega) (by first | omega | (dsimp only; omega)) (by omega)) rfl (fun _ _ => ?_)
          rintro ⟨b24, rfl, rfl⟩
          refine ⟨.none (by kernel_rfl), ?_⟩
          refine m_eff rfl (e_make (by rfl) (by rfl) rfl rfl (by omega) (by first | omega | (dsimp only; omega)) (by omega)) rfl (fun _ _ => ?_)
          rintro ⟨b22, rfl, rfl⟩
          refine ⟨.none (by kernel_rfl), ?_⟩
          refine m_float0 rfl (fun _ _ => p_build (by rfl) rfl (by rfl)) rfl ?_
          refine m_eff rfl (e_box rfl (by rfl)) rfl (fun _ _ => ?_)
          rintro ⟨b28, rfl, rfl⟩
          refine ⟨.none (by kernel_rfl), ?_⟩
          refine m_float0 rfl (fun _ _ => p_assign rfl) rfl ?_
          refine m_nil ?_
          refine g_qn ?_
          exact g_joined (b28, b20, b22, b24, b26, na, nc) (by (repeat (first | exact trivial | refine ⟨by rfl, ?_⟩)); done) (by repeat' (first | exact Cover.nil | exact Take.here | apply Cover.cons | apply Take.there)) trivial
        refine m_or ?_ ?_
        · refine m_eff rfl (e_make (by rfl) (by rfl) rfl rfl (by omega) (by first | omega | (dsimp only; omega)) (by omega)) rfl (fun _ _ => ?_)
          rintro ⟨b22, rfl, rfl⟩
          refine ⟨.none (by kernel_rfl), ?_⟩
          refine m_or ?_ ?_
          · refine m_eff rfl (e_make (by rfl) (by rfl) rfl rfl (by omega) (by first | omega | (dsimp only; omega)) (by omega)) rfl (fun _ _ => ?_)
            rintro ⟨b20, rfl, rfl⟩
            refine ⟨.none (by kernel_rfl), ?_⟩
            refine m_or ?_ ?_
            · refine m_eff rfl (e_make (by rfl) (by rfl) rfl rfl (by omega) (by first | omega | (dsimp only; omega)) (by omega)) rfl (fun _ _ => ?_)
              rintro ⟨b24, rfl, rfl⟩
              refine ⟨.none (by kernel_rfl), ?_⟩
              refine m_eff rfl (e_make (by rfl) (by rfl) rfl rfl (by omega) (by first | omega | (dsimp only; omega)) (by omega)) rfl (fun _ _ => ?_)
              rintro ⟨b26, rfl, rfl⟩
              refine ⟨.none (by kernel_rfl), ?_⟩
              refine m_float0 rfl (fun _ _ => p_build (by rfl) rfl (by rfl)) rfl ?_
              refine m_eff rfl (e_box rfl (by rfl)) rfl (fun _ _ => ?_)
              rintro ⟨b28, rfl, rfl⟩
              refine ⟨.none (by kernel_rfl), ?_⟩
              refine m_float0 rfl (fun _ _ => p_assign rfl) rfl ?_
              refine m_nil ?_
              refine g_qn ?_
              exact g_joined (b28, b20, b22, b24, b26, na, nc) (by (repeat (first | exact trivial | refine ⟨by rfl, ?_⟩)); done) (by repeat' (first | exact Cover.nil | exact Take.here | apply Cover.cons | apply Take.there)) trivial
            refine m_eff rfl (e_make (by rfl) (by rfl) rfl rfl (by omega) (by first | omega | (dsimp only; omega)) (by omega)) rfl (fun _ _ => ?_)
            rintro ⟨b26, rfl, rfl⟩
            refine ⟨.none (by kernel_rfl), ?_⟩
            refine m_eff rfl (e_make (by rfl) (by rfl) rfl rfl (by omega) (by first | omega | (dsimp only; omega)) (by omega)) rfl (fun _ _ => ?_)
            rintro ⟨b24, rfl, rfl⟩
            refine ⟨.none (by kernel_rfl), ?_⟩
            refine m_float0 rfl (fun _ _ => p_build (by rfl) rfl (by rfl)) rfl ?_
            refine m_eff rfl (e_box rfl (by rfl)) rfl (fun _ _ => ?_)
            rintro ⟨b28, rfl, rfl⟩
            refine ⟨.none (by kernel_rfl), ?_⟩
            refine m_float0 rfl (fun _ _ => p_assign rfl) rfl ?_
            refine m_nil ?_
            refine g_qn ?_
            exact g_joined (b28, b20, b22, b24, b26, na, nc) (by (repeat (first | exact trivial | refine ⟨by rfl, ?_⟩)); done) (by repeat' (first | exact Cover.nil | exact Take.here | apply Cover.cons | apply Take.there)) trivial
          refine m_or ?_ ?_
          · refine m_eff rfl (e_make (by rfl) (by rfl) rfl rfl (by omega) (by first | omega | (dsimp only; omega)) (by omega)) rfl (fun _ _ => ?_)
            rintro ⟨b24, rfl, rfl⟩
            refine ⟨.none (by kernel_rfl), ?_⟩
            refine m_or ?_ ?_
            · refine m_eff rfl (e_make (by rfl) (by rfl) rfl rfl (by omega) (by first | omega | (dsimp only; omega)) (by omega)) rfl (fun _ _ => ?_)
              rintro ⟨b20, rfl, rfl⟩
              refine ⟨.none (by kernel_rfl), ?_⟩
              refine m_eff rfl (e_make (by rfl) (by rfl) rfl rfl (by omega) (by first | omega | (dsimp only; omega)) (by omega)) rfl (fun _ _ => ?_)
              rintro ⟨b26, rfl, rfl⟩
              refine ⟨.none (by kernel_rfl), ?_⟩
              refine m_float0 rfl (fun _ _ => p_build (by rfl) rfl (by rfl)) rfl ?_
              refine m_eff rfl (e_box rfl (by rfl)) rfl (fun _ _ => ?_)
              rintro ⟨b28, rfl, rfl⟩
              refine ⟨.none (by kernel_rfl), ?_⟩
              refine m_float0 rfl (fun _ _ => p_assign rfl) rfl ?_
              refine m_nil ?_
              refine g_qn ?_
              exact g_joined (b28, b20, b22, b24, b26, na, nc) (by (repeat (first | exact trivial | refine ⟨by rfl, ?_⟩)); done) (by repeat' (first | exact Cover.nil | exact Take.here | apply Cover.cons | apply Take.there)) trivial
            refine m_eff rfl (e_make (by rfl) (by rfl) rfl rfl (by omega) (by first | omega | (dsimp only; omega)) (by omega)) rfl (fun _ _ => ?_)
            rintro ⟨b26, rfl, rfl⟩
            refine ⟨.none (by kernel_rfl), ?_⟩
            refine m_eff rfl (e_make (by rfl) (by rfl) rfl rfl (by omega) (by first | omega | (dsimp only; omega)) (by omega)) rfl (fun _ _ => ?_)
            rintro ⟨b20, rfl, rfl⟩
            refine ⟨.none (by kernel_rfl), ?_⟩
            refine m_float0 rfl (fun _ _ => p_build (by rfl) rfl (by rfl)) rfl ?_
            refine m_eff rfl (e_box rfl (by rfl)) rfl (fun _ _ => ?_)
            rintro ⟨b28, rfl, rfl⟩
            refine ⟨.none (by kernel_rfl), ?_⟩
            refine m_float0 rfl (fun _ _ => p_assign rfl) rfl ?_
            refine m_nil ?_
            refine g_qn ?_
            exact g_joined (b28, b20, b22, b24, b26, na, nc) (by (repeat (first | exact trivial | refine ⟨by rfl, ?_⟩)); done) (by repeat' (first | exact Cover.nil | exact Take.here | apply Cover.cons | apply Take.there)) trivial
          refine m_eff rfl (e_make (by rfl) (by rfl) rfl rfl (by omega) (by first | omega | (dsimp only; omega)) (by omega)) rfl (fun _ _ => ?_)
          rintro ⟨b26, rfl, rfl⟩
          refine ⟨.none (by kernel_rfl), ?_⟩
          refine m_or ?_ ?_
          · refine m_eff rfl (e_make (by rfl) (by rfl) rfl rfl (by omega) (by first | omega | (dsimp only; omega)) (by omega)) rfl (fun _ _ => ?_)
            rintro ⟨b20, rfl, rfl⟩
            refine ⟨.none (by kernel_rfl), ?_⟩
            refine m_eff rfl (e_make (by rfl) (by rfl) rfl rfl (by omega) (by first | omega | (dsimp only; omega)) (by omega)) rfl (fun _ _ => ?_)
            rintro ⟨b24, rfl, rfl⟩
            refine ⟨.none (by kernel_rfl), ?_⟩
            refine m_float0 rfl (fun _ _ => p_build (by rfl) rfl (by rfl)) rfl ?_
            refine m_eff rfl (e_box rfl (by rfl)) rfl (fun _ _ => ?_)
            rintro ⟨b28, rfl, rfl⟩
            refine ⟨.none (by kernel_rfl), ?_⟩
            refine m_float0 rfl (fun _ _ => p_assign rfl) rfl ?_
            refine m_nil ?_
            refine g_qn ?_
            exact g_joined (b28, b20, b22, b24, b26, na, nc) (by (repeat (first | exact trivial | refine ⟨by rfl, ?_⟩)); done) (by repeat' (first | exact Cover.nil | exact Take.here | apply Cover.cons | apply Take.there)) trivial
          refine m_eff rfl (e_make (by rfl) (by rfl) rfl rfl (by omega) (by first | omega | (dsimp only; omega)) (by omega)) rfl (fun _ _ => ?_)
          rintro ⟨b24, rfl, rfl⟩
          refine ⟨.none (by kernel_rfl), ?_⟩
          refine m_eff rfl (e_make (by rfl) (by rfl) rfl rfl (by omega) (by first | omega | (dsimp only; omega)) (by omega)) rfl (fun _ _ => ?_)
          rintro ⟨b20, rfl, rfl⟩
          refine ⟨.none (by kernel_rfl), ?_⟩
          refine m_float0 rfl (fun _ _ => p_build (by rfl) rfl (by rfl)) rfl ?_
          refine m_eff rfl (e_box rfl (by rfl)) rfl (fun _ _ => ?_)
          rintro ⟨b28, rfl, rfl⟩
          refine ⟨.none (by kernel_rfl), ?_⟩
          refine m_float0 rfl (fun _ _ => p_assign rfl) rfl ?_
          refine m_nil ?_
          refine g_qn ?_
          exact g_joined (b28, b20, b22, b24, b26, na, nc) (by (repeat (first | exact trivial | refine ⟨by rfl, ?_⟩)); done) (by repeat' (first | exact Cover.nil | exact Take.here | apply Cover.cons | apply Take.there)) trivial
        refine m_or ?_ ?_
        · refine m_eff rfl (e_make (by rfl) (by rfl) rfl rfl (by omega) (by first | omega | (dsimp only; omega)) (by omega)) rfl (fun _ _ => ?_)
          rintro ⟨b24, rfl, rfl⟩
          refine ⟨.none (by kernel_rfl), ?_⟩
          refine m_or ?_ ?_
          · refine m_eff rfl (e_make (by rfl) (by rfl) rfl rfl (by omega) (by first | omega | (dsimp only; omega)) (by omega)) rfl (fun _ _ => ?_)
            rintro ⟨b20, rfl, rfl⟩
            refine ⟨.none (by kernel_rfl), ?_⟩
            refine m_or ?_ ?_
            · refine m_eff rfl (e_make (by rfl) (by rfl) rfl rfl (by omega) (by first | omega | (dsimp only; omega)) (by omega)) rfl (fun _ _ => ?_)
              rintro ⟨b22, rfl, rfl⟩
              refine ⟨.none (by kernel_rfl), ?_⟩
              refine m_eff rfl (e_make (by rfl) (by rfl) rfl rfl (by omega) (by first | omega | (dsimp only; omega)) (by omega)) rfl (fun _ _ => ?_)
              rintro ⟨b26, rfl, rfl⟩
              refine ⟨.none (by kernel_rfl), ?_⟩
              refine m_float0 rfl (fun _ _ => p_build (by rfl) rfl (by rfl)) rfl ?_
              refine m_eff rfl (e_box rfl (by rfl)) rfl (fun _ _ => ?_)
              rintro ⟨b28, rfl, rfl⟩
              refine ⟨.none (by kernel_rfl), ?_⟩
              refine m_float0 rfl (fun _ _ => p_assign rfl) rfl ?_
              refine m_nil ?_
              refine g_qn ?_
              exact g_joined (b28, b20, b22, b24, b26, na, nc) (by (repeat (first | exact trivial | refine ⟨by rfl, ?_⟩)); done) (by repeat' (first | exact Cover.nil | exact Take.here | apply Cover.cons | apply Take.there)) trivial
            refine m_eff rfl (e_make (by rfl) (by rfl) rfl rfl (by omega) (by first | omega | (dsimp only; omega)) (by omega)) rfl (fun _ _ => ?_)
            rintro ⟨b26, rfl, rfl⟩
            refine ⟨.none (by kernel_rfl), ?_⟩
            refine m_eff rfl (e_make (by rfl) (by rfl) rfl rfl (by omega) (by first | omega | (dsimp only; omega)) (by omega)) rfl (fun _ _ => ?_)
            rintro ⟨b22, rfl, rfl⟩
            refine ⟨.none (by kernel_rfl), ?_⟩
            refine m_float0 rfl (fun _ _ => p_build (by rfl) rfl (by rfl)) rfl ?_
            refine m_eff rfl (e_box rfl (by rfl)) rfl (fun _ _ => ?_)
            rintro ⟨b28, rfl, rfl⟩
            refine ⟨.none (by kernel_rfl), ?_⟩
            refine m_float0 rfl (fun _ _ => p_assign rfl) rfl ?_
            refine m_nil ?_
            refine g_qn ?_
            exact g_joined (b28, b20, b22, b24, b26, na, nc) (by (repeat (first | exact trivial | refine ⟨by rfl, ?_⟩)); done) (by repeat' (first | exact Cover.nil | exact Take.here | apply Cover.cons | apply Take.there)) trivial
          refine m_or ?_ ?_
          · refine m_eff rfl (e_make (by rfl) (by rfl) rfl rfl (by omega) (by first | omega | (dsimp only; omega)) (by omega)) rfl (fun _ _ => ?_)
            rintro ⟨b22, rfl, rfl⟩
            refine ⟨.none (by kernel_rfl), ?_⟩
            refine m_or ?_ ?_
            · refine m_eff rfl (e_make (by rfl) (by rfl) rfl rfl (by omega) (by first | omega | (dsimp only; omega)) (by omega)) rfl (fun _ _ => ?_)
              rintro ⟨b20, rfl, rfl⟩
              refine ⟨.none (by kernel_rfl), ?_⟩
              refine m_eff rfl (e_make (by rfl) (by rfl) rfl rfl (by omega) (by first | omega | (dsimp only; omega)) (by omega)) rfl (fun _ _ => ?_)
              rintro ⟨b26, rfl, rfl⟩
              refine ⟨.none (by kernel_rfl), ?_⟩
              refine m_float0 rfl (fun _ _ => p_build (by rfl) rfl (by rfl)) rfl ?_
              refine m_eff rfl (e_box rfl (by rfl)) rfl (fun _ _ => ?_)
              rintro ⟨b28, rfl, rfl⟩
              refine ⟨.none (by kernel_rfl), ?_⟩
              refine m_float0 rfl (fun _ _ => p_assign rfl) rfl ?_
              refine m_nil ?_
              refine g_qn ?_
              exact g_joined (b28, b20, b22, b24, b26, na, nc) (by (repeat (first | exact trivial | refine ⟨by rfl, ?_⟩)); done) (by repeat' (first | exact Cover.nil | exact Take.here | apply Cover.cons | apply Take.there)) trivial
            refine m_eff rfl (e_make (by rfl) (by rfl) rfl rfl (by omega) (by first | omega | (dsimp only; omega)) (by omega)) rfl (fun _ _ => ?_)
            rintro ⟨b26, rfl, rfl⟩
            refine ⟨.none (by kernel_rfl), ?_⟩
            refine m_eff rfl (e_make (by rfl) (by rfl) rfl rfl (by omega) (by first | omega | (dsimp only; omega)) (by omega)) rfl (fun _ _ => ?_)
            rintro ⟨b20, rfl, rfl⟩
            refine ⟨.none (by kernel_rfl), ?_⟩
            refine m_float0 rfl (fun _ _ => p_build (by rfl) rfl (by rfl)) rfl ?_
            refine m_eff rfl (e_box rfl (by rfl)) rfl (fun _ _ => ?_)
            rintro ⟨b28, rfl, rfl⟩
            refine ⟨.none (by kernel_rfl), ?_⟩
            refine m_float0 rfl (fun _ _ => p_assign rfl) rfl ?_
            refine m_nil ?_
            refine g_qn ?_
            exact g_joined (b28, b20, b22, b24, b26, na, nc) (by (repeat (first | exact trivial | refine ⟨by rfl, ?_⟩)); done) (by repeat' (first | exact Cover.nil | exact Take.here | apply Cover.cons | apply Take.there)) trivial
          refine m_eff rfl (e_make (by rfl) (by rfl) rfl rfl (by omega) (by first | omega | (dsimp only; omega)) (by omega)) rfl (fun _ _ => ?_)
          rintro ⟨b26, rfl, rfl⟩
          refine ⟨.none (by kernel_rfl), ?_⟩
          refine m_or ?_ ?_
          · refine m_eff rfl (e_make (by rfl) (by rfl) rfl rfl (by omega) (by first | omega | (dsimp only; omega)) (by omega)) rfl (fun _ _ => ?_)
            rintro ⟨b20, rfl, rfl⟩
            refine ⟨.none (by kernel_rfl), ?_⟩
            refine m_eff rfl (e_make (by rfl) (by rfl) rfl rfl (by omega) (by first | omega | (dsimp only; omega)) (by omega)) rfl (fun _ _ => ?_)
            rintro ⟨b22, rfl, rfl⟩
            refine ⟨.none (by kernel_rfl), ?_⟩
            refine m_float0 rfl (fun _ _ => p_build (by rfl) rfl (by rfl)) rfl ?_
            refine m_eff rfl (e_box rfl (by rfl)) rfl (fun _ _ => ?_)
            rintro ⟨b28, rfl, rfl⟩
            refine ⟨.none (by kernel_rfl), ?_⟩
            refine m_float0 rfl (fun _ _ => p_assign rfl) rfl ?_
            refine m_nil ?_
            refine g_qn ?_
            exact g_joined (b28, b20, b22, b24, b26, na, nc) (by (repeat (first | exact trivial | refine ⟨by rfl, ?_⟩)); done) (by repeat' (first | exact Cover.nil | exact Take.here | apply Cover.cons | apply Take.there)) trivial
          refine m_eff rfl (e_make (by rfl) (by rfl) rfl rfl (by omega) (by first | omega | (dsimp only; omega)) (by omega)) rfl (fun _ _ => ?_)
          rintro ⟨b22, rfl, rfl⟩
          refine ⟨.none (by kernel_rfl), ?_⟩
          refine m_eff rfl (e_make (by rfl) (by rfl) rfl rfl (by omega) (by first | omega | (dsimp only; omega)) (by omega)) rfl (fun _ _ => ?_)
          rintro ⟨b20, rfl, rfl⟩
          refine ⟨.none (by kernel_rfl), ?_⟩
          refine m_float0 rfl (fun _ _ => p_build (by rfl) rfl (by rfl)) rfl ?_
          refine m_eff rfl (e_box rfl (by rfl)) rfl (fun _ _ => ?_)
          rintro ⟨b28, rfl, rfl⟩
          refine ⟨.none (by kernel_rfl), ?_⟩
          refine m_float0 rfl (fun _ _ => p_assign rfl) rfl ?_
          refine m_nil ?_
          refine g_qn ?_
          exact g_joined (b28, b20, b22, b24, b26, na, nc) (by (repeat (first | exact trivial | refine ⟨by rfl, ?_⟩)); done) (by repeat' (first | exact Cover.nil | exact Take.here | apply Cover.cons | apply Take.there)) trivial
        refine m_eff rfl (e_make (by rfl) (by rfl) rfl rfl (by omega) (by first | omega | (dsimp only; omega)) (by omega)) rfl (fun _ _ => ?_)
        rintro ⟨b26, rfl, rfl⟩
        refine ⟨.none (by kernel_rfl), ?_⟩
        refine m_or ?_ ?_
        · refine m_eff rfl (e_make (by rfl) (by rfl) rfl rfl (by omega) (by first | omega | (dsimp only; omega)) (by omega)) rfl (fun _ _ => ?_)
          rintro ⟨b20, rfl, rfl⟩
          refine ⟨.none (by kernel_rfl), ?_⟩
          refine m_or ?_ ?_
          · refine m_eff rfl (e_make (by rfl) (by rfl) rfl rfl (by omega) (by first | omega | (dsimp only; omega)) (by omega)) rfl (fun _ _ => ?_)
            rintro ⟨b22, rfl, rfl⟩
            refine ⟨.none (by kernel_rfl), ?_⟩
            refine m_eff rfl (e_make (by rfl) (by rfl) rfl rfl (by omega) (by first | omega | (dsimp only; omega)) (by omega)) rfl (fun _ _ => ?_)
            rintro ⟨b24, rfl, rfl⟩
            refine ⟨.none (by kernel_rfl), ?_⟩
            refine m_float0 rfl (fun _ _ => p_build (by rfl) rfl (by rfl)) rfl ?_
            refine m_eff rfl (e_box rfl (by rfl)) rfl (fun _ _ => ?_)
            rintro ⟨b28, rfl, rfl⟩
            refine ⟨.none (by kernel_rfl), ?_⟩
            refine m_float0 rfl (fun _ _ => p_assign rfl) rfl ?_
            refine m_nil ?_
            refine g_qn ?_
            exact g_joined (b28, b20, b22, b24, b26, na, nc) (by (repeat (first | exact trivial | refine ⟨by rfl, ?_⟩)); done) (by repeat' (first | exact Cover.nil | exact Take.here | apply Cover.cons | apply Take.there)) trivial
          refine m_eff rfl (e_make (by rfl) (by rfl) rfl rfl (by omega) (by first | omega | (dsimp only; omega)) (by omega)) rfl (fun _ _ => ?_)
          rintro ⟨b24, rfl, rfl⟩
          refine ⟨.none (by kernel_rfl), ?_⟩
          refine m_eff rfl (e_make (by rfl) (by rfl) rfl rfl (by omega) (by first | omega | (dsimp only; omega)) (by omega)) rfl (fun _ _ => ?_)
          rintro ⟨b22, rfl, rfl⟩
          refine ⟨.none (by kernel_rfl), ?_⟩
          refine m_float0 rfl (fun _ _ => p_build (by rfl) rfl (by rfl)) rfl ?_
          refine m_eff rfl (e_box rfl (by rfl)) rfl (fun _ _ => ?_)
          rintro ⟨b28, rfl, rfl⟩
          refine ⟨.none (by kernel_rfl), ?_⟩
          refine m_float0 rfl (fun _ _ => p_assign rfl) rfl ?_
          refine m_nil ?_
          refine g_qn ?_
          exact g_joined (b28, b20, b22, b24, b26, na, nc) (by (repeat (first | exact trivial | refine ⟨by rfl, ?_⟩)); done) (by repeat' (first | exact Cover.nil | exact Take.here | apply Cover.cons | apply Take.there)) trivial
        refine m_or ?_ ?_
        · refine m_eff rfl (e_make (by rfl) (by rfl) rfl rfl (by omega) (by first | omega | (dsimp only; omega)) (by omega)) rfl (fun _ _ => ?_)
          rintro ⟨b22, rfl, rfl⟩
          refine ⟨.none (by kernel_rfl), ?_⟩
          refine m_or ?_ ?_
          · refine m_eff rfl (e_make (by rfl) (by rfl) rfl rfl (by omega) (by first | omega | (dsimp only; omega)) (by omega)) rfl (fun _ _ => ?_)
            rintro ⟨b20, rfl, rfl⟩
            refine ⟨.none (by kernel_rfl), ?_⟩
            refine m_eff rfl (e_make (by rfl) (by rfl) rfl rfl (by omega) (by first | omega | (dsimp only; omega)) (by omega)) rfl (fun _ _ => ?_)
            rintro ⟨b24, rfl, rfl⟩
            refine ⟨.none (by kernel_rfl), ?_⟩
            refine m_float0 rfl (fun _ _ => p_build (by rfl) rfl (by rfl)) rfl ?_
            refine m_eff rfl (e_box rfl (by rfl)) rfl (fun _ _ => ?_)
            rintro ⟨b28, rfl, rfl⟩
            refine ⟨.none (by kernel_rfl), ?_⟩
            refine m_float0 rfl (fun _ _ => p_assign rfl) rfl ?_
            refine m_nil ?_
            refine g_qn ?_
            exact g_joined (b28, b20, b22, b24, b26, na, nc) (by (repeat (first | exact trivial | refine ⟨by rfl, ?_⟩)); done) (by repeat' (first | exact Cover.nil | exact Take.here | apply Cover.cons | apply Take.there)) trivial
          refine m_eff rfl (e_make (by rfl) (by rfl) rfl rfl (by omega) (by first | omega | (dsimp only; omega)) (by omega)) rfl (fun _ _ => ?_)
          rintro ⟨b24, rfl, rfl⟩
          refine ⟨.none (by kernel_rfl), ?_⟩
          refine m_eff rfl (e_make (by rfl) (by rfl) rfl rfl (by omega) (by first | omega | (dsimp only; omega)) (by omega)) rfl (fun _ _ => ?_)
          rintro ⟨b20, rfl, rfl⟩
          refine ⟨.none (by kernel_rfl), ?_⟩
          refine m_float0 rfl (fun _ _ => p_build (by rfl) rfl (by rfl)) rfl ?_
          refine m_eff rfl (e_box rfl (by rfl)) rfl (fun _ _ => ?_)
          rintro ⟨b28, rfl, rfl⟩
          refine ⟨.none (by kernel_rfl), ?_⟩
          refine m_float0 rfl (fun _ _ => p_assign rfl) rfl ?_
          refine m_nil ?_
          refine g_qn ?_
          exact g_joined (b28, b20, b22, b24, b26, na, nc) (by (repeat (first | exact trivial | refine ⟨by rfl, ?_⟩)); done) (by repeat' (first | exact Cover.nil | exact Take.here | apply Cover.cons | apply Take.there)) trivial
        refine m_eff rfl (e_make (by rfl) (by rfl) rfl rfl (by omega) (by first | omega | (dsimp only; omega)) (by omega)) rfl (fun _ _ => ?_)
        rintro ⟨b24, rfl, rfl⟩
        refine ⟨.none (by kernel_rfl), ?_⟩
        refine m_or ?_ ?_
        · refine m_eff rfl (e_make (by rfl) (by rfl) rfl rfl (by omega) (by first | omega | (dsimp only; omega)) (by omega)) rfl (fun _ _ => ?_)
          rintro ⟨b20, rfl, rfl⟩
          refine ⟨.none (by kernel_rfl), ?_⟩
          refine m_eff rfl (e_make (by rfl) (by rfl) rfl rfl (by omega) (by first | omega | (dsimp only; omega)) (by omega)) rfl (fun _ _ => ?_)
          rintro ⟨b22, rfl, rfl⟩
          refine ⟨.none (by kernel_rfl), ?_⟩
          refine m_float0 rfl (fun _ _ => p_build (by rfl) rfl (by rfl)) rfl ?_
          refine m_eff rfl (e_box rfl (by rfl)) rfl (fun _ _ => ?_)
          rintro ⟨b28, rfl, rfl⟩
          refine ⟨.none (by kernel_rfl), ?_⟩
          refine m_float0 rfl (fun _ _ => p_assign rfl) rfl ?_
          refine m_nil ?_
          refine g_qn ?_
          exact g_joined (b28, b20, b22, b24, b26, na, nc) (by (repeat (first | exact trivial | refine ⟨by rfl, ?_⟩)); done) (by repeat' (first | exact Cover.nil | exact Take.here | apply Cover.cons | apply Take.there)) trivial
        refine m_eff rfl (e_make (by rfl) (by rfl) rfl rfl (by omega) (by first | omega | (dsimp only; omega)) (by omega)) rfl (fun _ _ => ?_)
        rintro ⟨b22, rfl, rfl⟩
        refine ⟨.none (by kernel_rfl), ?_⟩
        refine m_eff rfl (e_make (by rfl) (by rfl) rfl rfl (by omega) (by first | omega | (dsimp only; omega)) (by omega)) rfl (fun _ _ => ?_)
        rintro ⟨b20, rfl, rfl⟩
        refine ⟨.none (by kernel_rfl), ?_⟩
        refine m_float0 rfl (fun _ _ => p_build (by rfl) rfl (by rfl)) rfl ?_
        refine m_eff rfl (e_box rfl (by rfl)) rfl (fun _ _ => ?_)
        rintro ⟨b28, rfl, rfl⟩
        refine ⟨.none (by kernel_rfl), ?_⟩
        refine m_float0 rfl (fun _ _ => p_assign rfl) rfl ?_
        refine m_nil ?_
        refine g_qn ?_
        exact g_joined (b28, b20, b22, b24, b26, na, nc) (by (repeat (first | exact trivial | refine ⟨by rfl, ?_⟩)); done) (by repeat' (first | exact Cover.nil | exact Take.here | apply Cover.cons | apply Take.there)) trivial
      refine m_or ?_ ?_
      · refine m_eff rfl (e_make (by rfl) (by rfl) rfl rfl (by omega) (by first | omega | (dsimp only; omega)) (by omega)) rfl (fun _ _ => ?_)
        rintro ⟨b20, rfl, rfl⟩
        refine ⟨.none (by kernel_rfl), ?_⟩
        refine m_or ?_ ?_
        · refine m_call (Hin := []) (Hr := ?hr3) (R := ?rr3) rfl wantedN rfl rfl rfl ?hin3 ?hc3 ?hk3
          case hin3 => repeat' (first | exact Cover.nil | exact Take.here | apply Cover.cons | apply Take.there)
          case hc3 => intro ρ' hρ hR; exact neigh_ok m a c E (hE.mono hρ) hlE hm ho
          rintro _ _ ⟨na, nc, rfl, rfl⟩
          refine ⟨.none (by kernel_rfl), ?_⟩
          refine m_or ?_ ?_
          · refine m_eff rfl (e_make (by rfl) (by rfl) rfl rfl (by omega) (by first | omega | (dsimp only; omega)) (by omega)) rfl (fun _ _ => ?_)
            rintro ⟨b22, rfl, rfl⟩
            refine ⟨.none (by kernel_rfl), ?_⟩
            refine m_or ?_ ?_
            · refine m_eff rfl (e_make (by rfl) (by rfl) rfl rfl (by omega) (by first | omega | (dsimp only; omega)) (by omega)) rfl (fun _ _ => ?_)
              rintro ⟨b24, rfl, rfl⟩
              refine ⟨.none (by kernel_rfl), ?_⟩
              refine m_eff rfl (e_make (by rfl) (by rfl) rfl rfl (by omega) (by first | omega | (dsimp only; omega)) (by omega)) rfl (fun _ _ => ?_)
              rintro ⟨b26, rfl, rfl⟩
              refine ⟨.none (by kernel_rfl), ?_⟩
              refine m_float0 rfl (fun _ _ => p_build (by rfl) rfl (by rfl)) rfl ?_
              refine m_eff rfl (e_box rfl (by rfl)) rfl (fun _ _ => ?_)
              rintro ⟨b28, rfl, rfl⟩
              refine ⟨.none (by kernel_rfl), ?_⟩
              refine m_float0 rfl (fun _ _ => p_assign rfl) rfl ?_
              refine m_nil ?_
              refine g_qn ?_
              exact g_joined (b28, b20, b22, b24, b26, na, nc) (by (repeat (first | exact trivial | refine ⟨by rfl, ?_⟩)); done) (by repeat' (first | exact Cover.nil | exact Take.here | apply Cover.cons | apply Take.there)) trivial
            refine m_eff rfl (e_make (by rfl) (by rfl) rfl rfl (by omega) (by first | omega | (dsimp only; omega)) (by omega)) rfl (fun _ _ => ?_)
            rintro ⟨b26, rfl, rfl⟩
            refine ⟨.none (by kernel_rfl), ?_⟩
            refine m_eff rfl (e_make (by rfl) (by rfl) rfl rfl (by omega) (by first | omega | (dsimp only; omega)) (by omega)) rfl (fun _ _ => ?_)
            rintro ⟨b24, rfl, rfl⟩
            refine ⟨.none (by kernel_rfl), ?_⟩
            refine m_float0 rfl (fun _ _ => p_build (by rfl) rfl (by rfl)) rfl ?_
            refine m_eff rfl (e_box rfl (by rfl)) rfl (fun _ _ => ?_)
            rintro ⟨b28, rfl, rfl⟩
            refine ⟨.none (by kernel_rfl), ?_⟩
            refine m_float0 rfl (fun _ _ => p_assign rfl) rfl ?_
            refine m_nil ?_
            refine g_qn ?_
            exact g_joined (b28, b20, b22, b24, b26, na, nc) (by (repeat (first | exact trivial | refine ⟨by rfl, ?_⟩)); done) (by repeat' (first | exact Cover.nil | exact Take.here | apply Cover.cons | apply Take.there)) trivial
          refine m_or ?_ ?_
          · refine m_eff rfl (e_make (by rfl) (by rfl) rfl rfl (by omega) (by first | omega | (dsimp only; omega)) (by omega)) rfl (fun _ _ => ?_)
            rintro ⟨b24, rfl, rfl⟩
            refine ⟨.none (by kernel_rfl), ?_⟩
            refine m_or ?_ ?_
            · refine m_eff rfl (e_make (by rfl) (by rfl) rfl rfl (by omega) (by first | omega | (dsimp only; omega)) (by omega)) rfl (fun _ _ => ?_)
              rintro ⟨b22, rfl, rfl⟩
              refine ⟨.none (by kernel_rfl), ?_⟩
              refine m_eff rfl (e_make (by rfl) (by rfl) rfl rfl (by omega) (by first | omega | (dsimp only; omega)) (by omega)) rfl (fun _ _ => ?_)
              rintro ⟨b26, rfl, rfl⟩
              refine ⟨.none (by kernel_rfl), ?_⟩
              refine m_float0 rfl (fun _ _ => p_build (by rfl) rfl (by rfl)) rfl ?_
              refine m_eff rfl (e_box rfl (by rfl)) rfl (fun _ _ => ?_)
              rintro ⟨b28, rfl, rfl⟩
              refine ⟨.none (by kernel_rfl), ?_⟩
              refine m_float0 rfl (fun _ _ => p_assign rfl) rfl ?_
              refine m_nil ?_
              refine g_qn ?_
              exact g_joined (b28, b20, b22, b24, b26, na, nc) (by (repeat (first | exact trivial | refine ⟨by rfl, ?_⟩)); done) (by repeat' (first | exact Cover.nil | exact Take.here | apply Cover.cons | apply Take.there)) trivial
            refine m_eff rfl (e_make (by rfl) (by rfl) rfl rfl (by omega) (by first | omega | (dsimp only; omega)) (by omega)) rfl (fun _ _ => ?_)
            rintro ⟨b26, rfl, rfl⟩
            refine ⟨.none (by kernel_rfl), ?_⟩
            refine m_eff rfl (e_make (by rfl) (by rfl) rfl rfl (by omega) (by first | omega | (dsimp only; omega)) (by omega)) rfl (fun _ _ => ?_)
            rintro ⟨b22, rfl, rfl⟩
            refine ⟨.none (by kernel_rfl), ?_⟩
            refine m_float0 rfl (fun _ _ => p_build (by rfl) rfl (by rfl)) rfl ?_
            refine m_eff rfl (e_box rfl (by rfl)) rfl (fun _ _ => ?_)
            rintro ⟨b28, rfl, rfl⟩
            refine ⟨.none (by kernel_rfl), ?_⟩
            refine m_float0 rfl (fun _ _ => p_assign rfl) rfl ?_
            refine m_nil ?_
            refine g_qn ?_
            exact g_joined (b28, b20, b22, b24, b26, na, nc) (by (repeat (first | exact trivial | refine ⟨by rfl, ?_⟩)); done) (by repeat' (first | exact Cover.nil | exact Take.here | apply Cover.cons | apply Take.there)) trivial
          refine m_eff rfl (e_make (by rfl) (by rfl) rfl rfl (by omega) (by first | omega | (dsimp only; omega)) (by omega)) rfl (fun _ _ => ?_)
          rintro ⟨b26, rfl, rfl⟩
          refine ⟨.none (by kernel_rfl), ?_⟩
          refine m_or ?_ ?_
          · refine m_eff rfl (e_make (by rfl) (by rfl) rfl rfl (by omega) (by first | omega | (dsimp only; omega)) (by omega)) rfl (fun _ _ => ?_)
            rintro ⟨b22, rfl, rfl⟩
            refine ⟨.none (by kernel_rfl), ?_⟩
            refine m_eff rfl (e_make (by rfl) (by rfl) rfl rfl (by omega) (by first | omega | (dsimp only; omega)) (by omega)) rfl (fun _ _ => ?_)
            rintro ⟨b24, rfl, rfl⟩
            refine ⟨.none (by kernel_rfl), ?_⟩
            refine m_float0 rfl (fun _ _ => p_build (by rfl) rfl (by rfl)) rfl ?_
            refine m_eff rfl (e_box rfl (by rfl)) rfl (fun _ _ => ?_)
            rintro ⟨b28, rfl, rfl⟩
            refine ⟨.none (by kernel_rfl), ?_⟩
            refine m_float0 rfl (fun _ _ => p_assign rfl) rfl ?_
            refine m_nil ?_
            refine g_qn ?_
            exact g_joined (b28, b20, b22, b24, b26, na, nc) (by (repeat (first | exact trivial | refine ⟨by rfl, ?_⟩)); done) (by repeat' (first | exact Cover.nil | exact Take.here | apply Cover.cons | apply Take.there)) trivial
          refine m_eff rfl (e_make (by rfl) (by rfl) rfl rfl (by omega) (by first | omega | (dsimp only; omega)) (by omega)) rfl (fun _ _ => ?_)
          rintro ⟨b24, rfl, rfl⟩
          refine ⟨.none (by kernel_rfl), ?_⟩
          refine m_eff rfl (e_make (by rfl) (by rfl) rfl rfl (by omega) (by first | omega | (dsimp only; omega)) (by omega)) rfl (fun _ _ => ?_)
          rintro ⟨b22, rfl, rfl⟩
          refine ⟨.none (by kernel_rfl), ?_⟩
          refine m_float0 rfl (fun _ _ => p_build (by rfl) rfl (by rfl)) rfl ?_
          refine m_eff rfl (e_box rfl (by rfl)) rfl (fun _ _ => ?_)
          rintro ⟨b28, rfl, rfl⟩
          refine ⟨.none (by kernel_rfl), ?_⟩
          refine m_float0 rfl (fun _ _ => p_assign rfl) rfl ?_
          refine m_nil ?_
          refine g_qn ?_
          exact g_joined (b28, b20, b22, b24, b26, na, nc) (by (repeat (first | exact trivial | refine ⟨by rfl, ?_⟩)); done) (by repeat' (first | exact Cover.nil | exact Take.here | apply Cover.cons | apply Take.there)) trivial
        refine m_or ?_ ?_
        · refine m_eff rfl (e_make (by rfl) (by rfl) rfl rfl (by omega) (by first | omega | (dsimp only; omega)) (by omega)) rfl (fun _ _ => ?_)
          rintro ⟨b22, rfl, rfl⟩
          refine ⟨.none (by kernel_rfl), ?_⟩
          refine m_or ?_ ?_
          · refine m_call (Hin := []) (Hr := ?hr4) (R := ?rr4) rfl wantedN rfl rfl rfl ?hin4 ?hc4 ?hk4
            case hin4 => repeat' (first | exact Cover.nil | exact Take.here | apply Cover.cons | apply Take.there)
            case hc4 => intro ρ' hρ hR; exact neigh_ok m a c E (hE.mono hρ) hlE hm ho
            rintro _ _ ⟨na, nc, rfl, rfl⟩
            refine ⟨.none (by kernel_rfl), ?_⟩
            refine m_or ?_ ?_
            · refine m_eff rfl (e_make (by rfl) (by rfl) rfl rfl (by omega) (by first | omega | (dsimp only; omega)) (by omega)) rfl (fun _ _ => ?_)
              rintro ⟨b24, rfl, rfl⟩
              refine ⟨.none (by kernel_rfl), ?_⟩
              refine m_eff rfl (e_make (by rfl) (by rfl) rfl rfl (by omega) (by first | omega | (dsimp only; omega)) (by omega)) rfl (fun _ _ => ?_)
              rintro ⟨b26, rfl, rfl⟩
              refine ⟨.none (by kernel_rfl), ?_⟩
              refine m_float0 rfl (fun _ _ => p_build (by rfl) rfl (by rfl)) rfl ?_
              refine m_eff rfl (e_box rfl (by rfl)) rfl (fun _ _ => ?_)
              rintro ⟨b28, rfl, rfl⟩
              refine ⟨.none (by kernel_rfl), ?_⟩
              refine m_float0 rfl (fun _ _ => p_assign rfl) rfl ?_
              refine m_nil ?_
              refine g_qn ?_
              exact g_joined (b28, b20, b22, b24, b26, na, nc) (by (repeat (first | exact trivial | refine ⟨by rfl, ?_⟩)); done) (by repeat' (first | exact Cover.nil | exact Take.here | apply Cover.cons | apply Take.there)) trivial
            refine m_eff rfl (e_make (by rfl) (by rfl) rfl rfl (by omega) (by first | omega | (dsimp only; omega)) (by omega)) rfl (fun _ _ => ?_)
            rintro ⟨b26, rfl, rfl⟩
            refine ⟨.none (by kernel_rfl), ?_⟩
            refine m_eff rfl (e_make (by rfl) (by rfl) rfl rfl (by omega) (by first | omega | (dsimp only; omega)) (by omega)) rfl (fun _ _ => ?_)
            rintro ⟨b24, rfl, rfl⟩
            refine ⟨.none (by kernel_rfl), ?_⟩
            refine m_float0 rfl (fun _ _ => p_build (by rfl) rfl (by rfl)) rfl ?_
            refine m_eff rfl (e_box rfl (by rfl)) rfl (fun _ _ => ?_)
            rintro ⟨b28, rfl, rfl⟩
            refine ⟨.none (by kernel_rfl), ?_⟩
            refine m_float0 rfl (fun _ _ => p_assign rfl) rfl ?_
            refine m_nil ?_
            refine g_qn ?_
            exact g_joined (b28, b20, b22, b24, b26, na, nc) (by (repeat (first | exact trivial | refine ⟨by rfl, ?_⟩)); done) (by repeat' (first | exact Cover.nil | exact Take.here | apply Cover.cons | apply Take.there)) trivial
          refine m_or ?_ ?_
          · refine m_eff rfl (e_make (by rfl) (by rfl) rfl rfl (by omega) (by first | omega | (dsimp only; omega)) (by omega)) rfl (fun _ _ => ?_)
            rintro ⟨b24, rfl, rfl⟩
            refine ⟨.none (by kernel_rfl), ?_⟩
            refine m_or ?_ ?_
            · refine m_call (Hin := []) (Hr := ?hr5) (R := ?rr5) rfl wantedN rfl rfl rfl ?hin5 ?hc5 ?hk5
              case hin5 => repeat' (first | exact Cover.nil | exact Take.here | apply Cover.cons | apply Take.there)
              case hc5 => intro ρ' hρ hR; exact neigh_ok m a c E (hE.mono hρ) hlE hm ho
              rintro _ _ ⟨na, nc, rfl, rfl⟩
              refine ⟨.none (by kernel_rfl), ?_⟩
              refine m_eff rfl (e_make (by rfl) (by rfl) rfl rfl (by omega) (by first | omega | (dsimp only; omega)) (by omega)) rfl (fun _ _ => ?_)
              rintro ⟨b26, rfl, rfl⟩
              refine ⟨.none (by kernel_rfl), ?_⟩
              refine m_float0 rfl (fun _ _ => p_build (by rfl) rfl (by rfl)) rfl ?_
              refine m_eff rfl (e_box rfl (by rfl)) rfl (fun _ _ => ?_)
              rintro ⟨b28, rfl, rfl⟩
              refine ⟨.none (by kernel_rfl), ?_⟩
              refine m_float0 rfl (fun _ _ => p_assign rfl) rfl ?_
              refine m_nil ?_
              refine g_qn ?_
              exact g_joined (b28, b20, b22, b24, b26, na, nc) (by (repeat (first | exact trivial | refine ⟨by rfl, ?_⟩)); done) (by repeat' (first | exact Cover.nil | exact Take.here | apply Cover.cons | apply Take.there)) trivial
            refine m_eff rfl (e_make (by rfl) (by rfl) rfl rfl (by omega) (by first | omega | (dsimp only; omega)) (by omega)) rfl (fun _ _ => ?_)
            rintro ⟨b26, rfl, rfl⟩
            refine ⟨.none (by kernel_rfl), ?_⟩
            refine m_call (Hin := []) (Hr := ?hr6) (R := ?rr6) rfl wantedN rfl rfl rfl ?hin6 ?hc6 ?hk6
            case hin6 => repeat' (first | exact Cover.nil | exact Take.here | apply Cover.cons | apply Take.there)
            case hc6 => intro ρ' hρ hR; exact neigh_ok m a c E (hE.mono hρ) hlE hm ho
            rintro _ _ ⟨na, nc, rfl, rfl⟩
            refine ⟨.none (by kernel_rfl), ?_⟩
            refine m_float0 rfl (fun _ _ => p_build (by rfl) rfl (by rfl)) rfl ?_
            refine m_eff rfl (e_box rfl (by rfl)) rfl (fun _ _ => ?_)
            rintro ⟨b28, rfl, rfl⟩
            refine ⟨.none (by kernel_rfl), ?_⟩
            refine m_float0 rfl (fun _ _ => p_assign rfl) rfl ?_
            refine m_nil ?_
            refine g_qn ?_
            exact g_joined (b28, b20, b22, b24, b26, na, nc) (by (repeat (first | exact trivial | refine ⟨by rfl, ?_⟩)); done) (by repeat' (first | exact Cover.nil | exact Take.here | apply Cover.cons | apply Take.there)) trivial
          refine m_eff rfl (e_make (by rfl) (by rfl) rfl rfl (by omega) (by first | omega | (dsimp only; omega)) (by omega)) rfl (fun _ _ => ?_)
          rintro ⟨b26, rfl, rfl⟩
          refine ⟨.none (by kernel_rfl), ?_⟩
          refine m_or ?_ ?_
          · refine m_call (Hin := []) (Hr := ?hr7) (R := ?rr7) rfl wantedN rfl rfl rfl ?hin7 ?hc7 ?hk7
            case hin7 => repeat' (first | exact Cover.nil | exact Take.here | apply Cover.cons | apply Take.there)
            case hc7 => intro ρ' hρ hR; exact neigh_ok m a c E (hE.mono hρ) hlE hm ho
            rintro _ _ ⟨na, nc, rfl, rfl⟩
            refine ⟨.none (by kernel_rfl), ?_⟩
            refine m_eff rfl (e_make (by rfl) (by rfl) rfl rfl (by omega) (by first | omega | (dsimp only; omega)) (by omega)) rfl (fun _ _ => ?_)
            rintro ⟨b24, rfl, rfl⟩
            refine ⟨.none (by kernel_rfl), ?_⟩
            refine m_float0 rfl (fun _ _ => p_build (by rfl) rfl (by rfl)) rfl ?_
            refine m_eff rfl (e_box rfl (by rfl)) rfl (fun _ _ => ?_)
            rintro ⟨b28, rfl, rfl⟩
            refine ⟨.none (by kernel_rfl), ?_⟩
            refine m_float0 rfl (fun _ _ => p_assign rfl) rfl ?_
            refine m_nil ?_
            refine g_qn ?_
            exact g_joined (b28, b20, b22, b24, b26, na, nc) (by (repeat (first | exact trivial | refine ⟨by rfl, ?_⟩)); done) (by repeat' (first | exact Cover.nil | exact Take.here | apply Cover.cons | apply Take.there)) trivial
          refine m_eff rfl (e_make (by rfl) (by rfl) rfl rfl (by omega) (by first | omega | (dsimp only; omega)) (by omega)) rfl (fun _ _ => ?_)
          rintro ⟨b24, rfl, rfl⟩
          refine ⟨.none (by kernel_rfl), ?_⟩
          refine m_call (Hin := []) (Hr := ?hr8) (R := ?rr8) rfl wantedN rfl rfl rfl ?hin8 ?hc8 ?hk8
          case hin8 => repeat' (first | exact Cover.nil | exact Take.here | apply Cover.cons | apply Take.there)
          case hc8 => intro ρ' hρ hR; exact neigh_ok m a c E (hE.mono hρ) hlE hm ho
          rintro _ _ ⟨na, nc, rfl, rfl⟩
          refine ⟨.none (by kernel_rfl), ?_⟩
          refine m_float0 rfl (fun _ _ => p_build (by rfl) rfl (by rfl)) rfl ?_
          refine m_eff rfl (e_box rfl (by rfl)) rfl (fun _ _ => ?_)
          rintro ⟨b28, rfl, rfl⟩
          refine ⟨.none (by kernel_rfl), ?_⟩
          refine m_float0 rfl (fun _ _ => p_assign rfl) rfl ?_
          refine m_nil ?_
          refine g_qn ?_
          exact g_joined (b28, b20, b22, b24, b26, na, nc) (by (repeat (first | exact trivial | refine ⟨by rfl, ?_⟩)); done) (by repeat' (first | exact Cover.nil | exact Take.here | apply Cover.cons | apply Take.there)) trivial
        refine m_or ?_ ?_
        · refine m_eff rfl (e_make (by rfl) (by rfl) rfl rfl (by omega) (by first | omega | (dsimp only; omega)) (by omega)) rfl (fun _ _ => ?_)
          rintro ⟨b24, rfl, rfl⟩
          refine ⟨.none (by kernel_rfl), ?_⟩
          refine m_or ?_ ?_
          · refine m_call (Hin := []) (Hr := ?hr9) (R := ?rr9) rfl wantedN rfl rfl rfl ?hin9 ?hc9 ?hk9
            case hin9 => repeat' (first | exact Cover.nil | exact Take.here | apply Cover.cons | apply Take.there)
            case hc9 => intro ρ' hρ hR; exact neigh_ok m a c E (hE.mono hρ) hlE hm ho
            rintro _ _ ⟨na, nc, rfl, rfl⟩
            refine ⟨.none (by kernel_rfl), ?_⟩
            refine m_or ?_ ?_
            · refine m_eff rfl (e_make (by rfl) (by rfl) rfl rfl (by omega) (by first | omega | (dsimp only; omega)) (by omega)) rfl (fun _ _ => ?_)
              rintro ⟨b22, rfl, rfl⟩
              refine ⟨.none (by kernel_rfl), ?_⟩
              refine m_eff rfl (e_make (by rfl) (by rfl) rfl rfl (by omega) (by first | omega | (dsimp only; omega)) (by omega)) rfl (fun _ _ => ?_)
              rintro ⟨b26, rfl, rfl⟩
              refine ⟨.none (by kernel_rfl), ?_⟩
              refine m_float0 rfl (fun _ _ => p_build (by rfl) rfl (by rfl)) rfl ?_
              refine m_eff rfl (e_box rfl (by rfl)) rfl (fun _ _ => ?_)
              rintro ⟨b28, rfl, rfl⟩
              refine ⟨.none (by kernel_rfl), ?_⟩
              refine m_float0 rfl (fun _ _ => p_assign rfl) rfl ?_
              refine m_nil ?_
              refine g_qn ?_
              exact g_joined (b28, b20, b22, b24, b26, na, nc) (by (repeat (first | exact trivial | refine ⟨by rfl, ?_⟩)); done) (by repeat' (first | exact Cover.nil | exact Take.here | apply Cover.cons | apply Take.there)) trivial
            refine m_eff rfl (e_make (by rfl) (by rfl) rfl rfl (by omega) (by first | omega | (dsimp only; omega)) (by omega)) rfl (fun _ _ => ?_)
            rintro ⟨b26, rfl, rfl⟩
            refine ⟨.none (by kernel_rfl), ?_⟩
            refine m_eff rfl (e_make (by rfl) (by rfl) rfl rfl (by omega) (by first | omega | (dsimp only; omega)) (by omega)) rfl (fun _ _ => ?_)
            rintro ⟨b22, rfl, rfl⟩
            refine ⟨.none (by kernel_rfl), ?_⟩
            refine m_float0 rfl (fun _ _ => p_build (by rfl) rfl (by rfl)) rfl ?_
            refine m_eff rfl (e_box rfl (by rfl)) rfl (fun _ _ => ?_)
            rintro ⟨b28, rfl, rfl⟩
            refine ⟨.none (by kernel_rfl), ?_⟩
            refine m_float0 rfl (fun _ _ => p_assign rfl) rfl ?_
            refine m_nil ?_
            refine g_qn ?_
            exact g_joined (b28, b20, b22, b24, b26, na, nc) (by (repeat (first | exact trivial | refine ⟨by rfl, ?_⟩)); done) (by repeat' (first | exact Cover.nil | exact Take.here | apply Cover.cons | apply Take.there)) trivial
          refine m_or ?_ ?_
          · refine m_eff rfl (e_make (by rfl) (by rfl) rfl rfl (by omega) (by first | omega | (dsimp only; omega)) (by omega)) rfl (fun _ _ => ?_)
            rintro ⟨b22, rfl, rfl⟩
            refine ⟨.none (by kernel_rfl), ?_⟩
            refine m_or ?_ ?_
            · refine m_call (Hin := []) (Hr := ?hr10) (R := ?rr10) rfl wantedN rfl rfl rfl ?hin10 ?hc10 ?hk10
              case hin10 => repeat' (first | exact Cover.nil | exact Take.here | apply Cover.cons | apply Take.there)
              case hc10 => intro ρ' hρ hR; exact neigh_ok m a c E (hE.mono hρ) hlE hm ho
              rintro _ _ ⟨na, nc, rfl, rfl⟩
              refine ⟨.none (by kernel_rfl), ?_⟩
              refine m_eff rfl (e_make (by rfl) (by rfl) rfl rfl (by omega) (by first | omega | (dsimp only; omega)) (by omega)) rfl (fun _ _ => ?_)
              rintro ⟨b26, rfl, rfl⟩
              refine ⟨.none (by kernel_rfl), ?_⟩
              refine m_float0 rfl (fun _ _ => p_build (by rfl) rfl (by rfl)) rfl ?_
              refine m_eff rfl (e_box rfl (by rfl)) rfl (fun _ _ => ?_)
              rintro ⟨b28, rfl, rfl⟩
              refine ⟨.none (by kernel_rfl), ?_⟩
              refine m_float0 rfl (fun _ _ => p_assign rfl) rfl ?_
              refine m_nil ?_
              refine g_qn ?_
              exact g_joined (b28, b20, b22, b24, b26, na, nc) (by (repeat (first | exact trivial | refine ⟨by rfl, ?_⟩)); done) (by repeat' (first | exact Cover.nil | exact Take.here | apply Cover.cons | apply Take.there)) trivial
            refine m_eff rfl (e_make (by rfl) (by rfl) rfl rfl (by omega) (by first | omega | (dsimp only; omega)) (by omega)) rfl (fun _ _ => ?_)
            rintro ⟨b26, rfl, rfl⟩
            refine ⟨.none (by kernel_rfl), ?_⟩
            refine m_call (Hin := []) (Hr := ?hr11) (R := ?rr11) rfl wantedN rfl rfl rfl ?hin11 ?hc11 ?hk11
            case hin11 => repeat' (first | exact Cover.nil | exact Take.here | apply Cover.cons | apply Take.there)
            case hc11 => intro ρ' hρ hR; exact neigh_ok m a c E (hE.mono hρ) hlE hm ho
            rintro _ _ ⟨na, nc, rfl, rfl⟩
            refine ⟨.none (by kernel_rfl), ?_⟩
            refine m_float0 rfl (fun _ _ => p_build (by rfl) rfl (by rfl)) rfl ?_
            refine m_eff rfl (e_box rfl (by rfl)) rfl (fun _ _ => ?_)
            rintro ⟨b28, rfl, rfl⟩
            refine ⟨.none (by kernel_rfl), ?_⟩
            refine m_float0 rfl (fun _ _ => p_assign rfl) rfl ?_
            refine m_nil ?_
            refine g_qn ?_
            exact g_joined (b28, b20, b22, b24, b26, na, nc) (by (repeat (first | exact trivial | refine ⟨by rfl, ?_⟩)); done) (by repeat' (first | exact Cover.nil | exact Take.here | apply Cover.cons | apply Take.there)) trivial
          refine m_eff rfl (e_make (by rfl) (by rfl) rfl rfl (by omega) (by first | omega | (dsimp only; omega)) (by omega)) rfl (fun _ _ => ?_)
          rintro ⟨b26, rfl, rfl⟩
          refine ⟨.none (by kernel_rfl), ?_⟩
          refine m_or ?_ ?_
          · refine m_call (Hin := []) (Hr := ?hr12) (R := ?rr12) rfl wantedN rfl rfl rfl ?hin12 ?hc12 ?hk12
            case hin12 => repeat' (first | exact Cover.nil | exact Take.here | apply Cover.cons | apply Take.there)
            case hc12 => intro ρ' hρ hR; exact neigh_ok m a c E (hE.mono hρ) hlE hm ho
            rintro _ _ ⟨na, nc, rfl, rfl⟩
            refine ⟨.none (by kernel_rfl), ?_⟩
            refine m_eff rfl (e_make (by rfl) (by rfl) rfl rfl (by omega) (by first | omega | (dsimp only; omega)) (by omega)) rfl (fun _ _ => ?_)
            rintro ⟨b22, rfl, rfl⟩
            refine ⟨.none (by kernel_rfl), ?_⟩
            refine m_float0 rfl (fun _ _ => p_build (by rfl) rfl (by rfl)) rfl ?_
            refine m_eff rfl (e_box rfl (by rfl)) rfl (fun _ _ => ?_)
            rintro ⟨b28, rfl, rfl⟩
            refine ⟨.none (by kernel_rfl), ?_⟩
            refine m_float0 rfl (fun _ _ => p_assign rfl) rfl ?_
            refine m_nil ?_
            refine g_qn ?_
            exact g_joined (b28, b20, b22, b24, b26, na, nc) (by (repeat (first | exact trivial | refine ⟨by rfl, ?_⟩)); done) (by repeat' (first | exact Cover.nil | exact Take.here | apply Cover.cons | apply Take.there)) trivial
          refine m_eff rfl (e_make (by rfl) (by rfl) rfl rfl (by omega) (by first | omega | (dsimp only; omega)) (by omega)) rfl (fun _ _ => ?_)
          rintro ⟨b22, rfl, rfl⟩
          refine ⟨.none (by kernel_rfl), ?_⟩
          refine m_call (Hin := []) (Hr := ?hr13) (R := ?rr13) rfl wantedN rfl rfl rfl ?hin13 ?hc13 ?hk13
          case hin13 => repeat' (first | exact Cover.nil | exact Take.here | apply Cover.cons | apply Take.there)
          case hc13 => intro ρ' hρ hR; exact neigh_ok m a c E (hE.mono hρ) hlE hm ho
          rintro _ _ ⟨na, nc, rfl, rfl⟩
          refine ⟨.none (by kernel_rfl), ?_⟩
          refine m_float0 rfl (fun _ _ => p_build (by rfl) rfl (by rfl)) rfl ?_
          refine m_eff rfl (e_box rfl (by rfl)) rfl (fun _ _ => ?_)
          rintro ⟨b28, rfl, rfl⟩
          refine ⟨.none (by kernel_rfl), ?_⟩
          refine m_float0 rfl (fun _ _ => p_assign rfl) rfl ?_
          refine m_nil ?_
          refine g_qn ?_
          exact g_joined (b28, b20, b22, b24, b26, na, nc) (by (repeat (first | exact trivial | refine ⟨by rfl, ?_⟩)); done) (by repeat' (first | exact Cover.nil | exact Take.here | apply Cover.cons | apply Take.there)) trivial
        refine m_eff rfl (e_make (by rfl) (by rfl) rfl rfl (by omega) (by first | omega | (dsimp only; omega)) (by omega)) rfl (fun _ _ => ?_)
        rintro ⟨b26, rfl, rfl⟩
        refine ⟨.none (by kernel_rfl), ?_⟩
        refine m_or ?_ ?_
        · refine m_call (Hin := []) (Hr := ?hr14) (R := ?rr14) rfl wantedN rfl rfl rfl ?hin14 ?hc14 ?hk14
          case hin14 => repeat' (first | exact Cover.nil | exact Take.here | apply Cover.cons | apply Take.there)
          case hc14 => intro ρ' hρ hR; exact neigh_ok m a c E (hE.mono hρ) hlE hm ho
          rintro _ _ ⟨na, nc, rfl, rfl⟩
          refine ⟨.none (by kernel_rfl), ?_⟩
          refine m_or ?_ ?_
          · refine m_eff rfl (e_make (by rfl) (by rfl) rfl rfl (by omega) (by first | omega | (dsimp only; omega)) (by omega)) rfl (fun _ _ => ?_)
            rintro ⟨b22, rfl, rfl⟩
            refine ⟨.none (by kernel_rfl), ?_⟩
            refine m_eff rfl (e_make (by rfl) (by rfl) rfl rfl (by omega) (by first | omega | (dsimp only; omega)) (by omega)) rfl (fun _ _ => ?_)
            rintro ⟨b24, rfl, rfl⟩
            refine ⟨.none (by kernel_rfl), ?_⟩
            refine m_float0 rfl (fun _ _ => p_build (by rfl) rfl (by rfl)) rfl ?_
            refine m_eff rfl (e_box rfl (by rfl)) rfl (fun _ _ => ?_)
            rintro ⟨b28, rfl, rfl⟩
            refine ⟨.none (by kernel_rfl), ?_⟩
            refine m_float0 rfl (fun _ _ => p_assign rfl) rfl ?_
            refine m_nil ?_
            refine g_qn ?_
            exact g_joined (b28, b20, b22, b24, b26, na, nc) (by (repeat (first | exact trivial | refine ⟨by rfl, ?_⟩)); done) (by repeat' (first | exact Cover.nil | exact Take.here | apply Cover.cons | apply Take.there)) trivial
          refine m_eff rfl (e_make (by rfl) (by rfl) rfl rfl (by omega) (by first | omega | (dsimp only; omega)) (by omega)) rfl (fun _ _ => ?_)
          rintro ⟨b24, rfl, rfl⟩
          refine ⟨.none (by kernel_rfl), ?_⟩
          refine m_eff rfl (e_make (by rfl) (by rfl) rfl rfl (by omega) (by first | omega | (dsimp only; omega)) (by omega)) rfl (fun _ _ => ?_)
          rintro ⟨b22, rfl, rfl⟩
          refine ⟨.none (by kernel_rfl), ?_⟩
          refine m_float0 rfl (fun _ _ => p_build (by rfl) rfl (by rfl)) rfl ?_
          refine m_eff rfl (e_box rfl (by rfl)) rfl (fun _ _ => ?_)
          rintro ⟨b28, rfl, rfl⟩
          refine ⟨.none (by kernel_rfl), ?_⟩
          refine m_float0 rfl (fun _ _ => p_assign rfl) rfl ?_
          refine m_nil ?_
          refine g_qn ?_
          exact g_joined (b28, b20, b22, b24, b26, na, nc) (by (repeat (first | exact trivial | refine ⟨by rfl, ?_⟩)); done) (by repeat' (first | exact Cover.nil | exact Take.here | apply Cover.cons | apply Take.there)) trivial
        refine m_or ?_ ?_
        · refine m_eff rfl (e_make (by rfl) (by rfl) rfl rfl (by omega) (by first | omega | (dsimp only; omega)) (by omega)) rfl (fun _ _ => ?_)
          rintro ⟨b22, rfl, rfl⟩
          refine ⟨.none (by kernel_rfl), ?_⟩
          refine m_or ?_ ?_
          · refine m_call (Hin := []) (Hr := ?hr15) (R := ?rr15) rfl wantedN rfl rfl rfl ?hin15 ?hc15 ?hk15
            case hin15 => repeat' (first | exact Cover.nil | exact Take.here | apply Cover.cons | apply Take.there)
            case hc15 => intro ρ' hρ hR; exact neigh_ok m a c E (hE.mono hρ) hlE hm ho
            rintro _ _ ⟨na, nc, rfl, rfl⟩
            refine ⟨.none (by kernel_rfl), ?_⟩
            refine m_eff rfl (e_make (by rfl) (by rfl) rfl rfl (by omega) (by first | omega | (dsimp only; omega)) (by omega)) rfl (fun _ _ => ?_)
            rintro ⟨b24, rfl, rfl⟩
            refine ⟨.none (by kernel_rfl), ?_⟩
            refine m_float0 rfl (fun _ _ => p_build (by rfl) rfl (by rfl)) rfl ?_
            refine m_eff rfl (e_box rfl (by rfl)) rfl (fun _ _ => ?_)
            rintro ⟨b28, rfl, rfl⟩
            refine ⟨.none (by kernel_rfl), ?_⟩
            refine m_float0 rfl (fun _ _ => p_assign rfl) rfl ?_
            refine m_nil ?_
            refine g_qn ?_
            exact g_joined (b28, b20, b22, b24, b26, na, nc) (by (repeat (first | exact trivial | refine ⟨by rfl, ?_⟩)); done) (by repeat' (first | exact Cover.nil | exact Take.here | apply Cover.cons | apply Take.there)) trivial
          refine m_eff rfl (e_make (by rfl) (by rfl) rfl rfl (by omega) (by first | omega | (dsimp only; omega)) (by omega)) rfl (fun _ _ => ?_)
          rintro ⟨b24, rfl, rfl⟩
          refine ⟨.none (by kernel_rfl), ?_⟩
          refine m_call (Hin := []) (Hr := ?hr16) (R := ?rr16) rfl wantedN rfl rfl rfl ?hin16 ?hc16 ?hk16
          case hin16 => repeat' (first | exact Cover.nil | exact Take.here | apply Cover.cons | apply Take.there)
          case hc16 => intro ρ' hρ hR; exact neigh_ok m a c E (hE.mono hρ) hlE hm ho
          rintro _ _ ⟨na, nc, rfl, rfl⟩
          refine ⟨.none (by kernel_rfl), ?_⟩
          refine m_float0 rfl (fun _ _ => p_build (by rfl) rfl (by rfl)) rfl ?_
          refine m_eff rfl (e_box rfl (by rfl)) rfl (fun _ _ => ?_)
          rintro ⟨b28, rfl, rfl⟩
          refine ⟨.none (by kernel_rfl), ?_⟩
          refine m_float0 rfl (fun _ _ => p_assign rfl) rfl ?_
          refine m_nil ?_
          refine g_qn ?_
          exact g_joined (b28, b20, b22, b24, b26, na, nc) (by (repeat (first | exact trivial | refine ⟨by rfl, ?_⟩)); done) (by repeat' (first | exact Cover.nil | exact Take.here | apply Cover.cons | apply Take.there)) trivial
        refine m_eff rfl (e_make (by rfl) (by rfl) rfl rfl (by omega) (by first | omega | (dsimp only; omega)) (by omega)) rfl (fun _ _ => ?_)
        rintro ⟨b24, rfl, rfl⟩
        refine ⟨.none (by kernel_rfl), ?_⟩
        refine m_or ?_ ?_
        · refine m_call (Hin := []) (Hr := ?hr17) (R := ?rr17) rfl wantedN rfl rfl rfl ?hin17 ?hc17 ?hk17
          case hin17 => repeat' (first | exact Cover.nil | exact Take.here | apply Cover.cons | apply Take.there)
          case hc17 => intro ρ' hρ hR; exact neigh_ok m a c E (hE.mono hρ) hlE hm ho
          rintro _ _ ⟨na, nc, rfl, rfl⟩
          refine ⟨.none (by kernel_rfl), ?_⟩
          refine m_eff rfl (e_make (by rfl) (by rfl) rfl rfl (by omega) (by first | omega | (dsimp only; omega)) (by omega)) rfl (fun _ _ => ?_)
          rintro ⟨b22, rfl, rfl⟩
          refine ⟨.none (by kernel_rfl), ?_⟩
          refine m_float0 rfl (fun _ _ => p_build (by rfl) rfl (by rfl)) rfl ?_
          refine m_eff rfl (e_box rfl (by rfl)) rfl (fun _ _ => ?_)
          rintro ⟨b28, rfl, rfl⟩
          refine ⟨.none (by kernel_rfl), ?_⟩
          refine m_float0 rfl (fun _ _ => p_assign rfl) rfl ?_
          refine m_nil ?_
          refine g_qn ?_
          exact g_joined (b28, b20, b22, b24, b26, na, nc) (by (repeat (first | exact trivial | refine ⟨by rfl, ?_⟩)); done) (by repeat' (first | exact Cover.nil | exact Take.here | apply Cover.cons | apply Take.there)) trivial
        refine m_eff rfl (e_make (by rfl) (by rfl) rfl rfl (by omega) (by first | omega | (dsimp only; omega)) (by omega)) rfl (fun _ _ => ?_)
        rintro ⟨b22, rfl, rfl⟩
        refine ⟨.none (by kernel_rfl), ?_⟩
        refine m_call (Hin := []) (Hr := ?hr18) (R := ?rr18) rfl wantedN rfl rfl rfl ?hin18 ?hc18 ?hk18
        case hin18 => repeat' (first | exact Cover.nil | exact Take.here | apply Cover.cons | apply Take.there)
        case hc18 => intro ρ' hρ hR; exact neigh_ok m a c E (hE.mono hρ) hlE hm ho
        rintro _ _ ⟨na, nc, rfl, rfl⟩
        refine ⟨.none (by kernel_rfl), ?_⟩
        refine m_float0 rfl (fun _ _ => p_build (by rfl) rfl (by rfl)) rfl ?_
        refine m_eff rfl (e_box rfl (by rfl)) rfl (fun _ _ => ?_)
        rintro ⟨b28, rfl, rfl⟩
        refine ⟨.none (by kernel_rfl), ?_⟩
        refine m_float0 rfl (fun _ _ => p_assign rfl) rfl ?_
        refine m_nil ?_
        refine g_qn ?_
        exact g_joined (b28, b20, b22, b24, b26, na, nc) (by (repeat (first | exact trivial | refine ⟨by rfl, ?_⟩)); done) (by repeat' (first | exact Cover.nil | exact Take.here | apply Cover.cons | apply Take.there)) trivial
      refine m_or ?_ ?_
      · refine m_eff rfl (e_make (by rfl) (by rfl) rfl rfl (by omega) (by first | omega | (dsimp only; omega)) (by omega)) rfl (fun _ _ => ?_)
        rintro ⟨b22, rfl, rfl⟩
        refine ⟨.none (by kernel_rfl), ?_⟩
        refine m_or ?_ ?_
        · refine m_call (Hin := []) (Hr := ?hr19) (R := ?rr19) rfl wantedN rfl rfl rfl ?hin19 ?hc19 ?hk19
          case hin19 => repeat' (first | exact Cover.nil | exact Take.here | apply Cover.cons | apply Take.there)
          case hc19 => intro ρ' hρ hR; exact neigh_ok m a c E (hE.mono hρ) hlE hm ho
          rintro _ _ ⟨na, nc, rfl, rfl⟩
          refine ⟨.none (by kernel_rfl), ?_⟩
          refine m_or ?_ ?_
          · refine m_eff rfl (e_make (by rfl) (by rfl) rfl rfl (by omega) (by first | omega | (dsimp only; omega)) (by omega)) rfl (fun _ _ => ?_)
            rintro ⟨b20, rfl, rfl⟩
            refine ⟨.none (by kernel_rfl), ?_⟩
            refine m_or ?_ ?_
            · refine m_eff rfl (e_make (by rfl) (by rfl) rfl rfl (by omega) (by first | omega | (dsimp only; omega)) (by omega)) rfl (fun _ _ => ?_)
              rintro ⟨b24, rfl, rfl⟩
              refine ⟨.none (by kernel_rfl), ?_⟩
              refine m_eff rfl (e_make (by rfl) (by rfl) rfl rfl (by omega) (by first | omega | (dsimp only; omega)) (by omega)) rfl (fun _ _ => ?_)
              rintro ⟨b26, rfl, rfl⟩
              refine ⟨.none (by kernel_rfl), ?_⟩
              refine m_float0 rfl (fun _ _ => p_build (by rfl) rfl (by rfl)) rfl ?_
              refine m_eff rfl (e_box rfl (by rfl)) rfl (fun _ _ => ?_)
              rintro ⟨b28, rfl, rfl⟩
              refine ⟨.none (by kernel_rfl), ?_⟩
              refine m_float0 rfl (fun _ _ => p_assign rfl) rfl ?_
              refine m_nil ?_
              refine g_qn ?_
              exact g_joined (b28, b20, b22, b24, b26, na, nc) (by (repeat (first | exact trivial | refine ⟨by rfl, ?_⟩)); done) (by repeat' (first | exact Cover.nil | exact Take.here | apply Cover.cons | apply Take.there)) trivial
            refine m_eff rfl (e_make (by rfl) (by rfl) rfl rfl (by omega) (by first | omega | (dsimp only; omega)) (by omega)) rfl (fun _ _ => ?_)
            rintro ⟨b26, rfl, rfl⟩
            refine ⟨.none (by kernel_rfl), ?_⟩
            refine m_eff rfl (e_make (by rfl) (by rfl) rfl rfl (by omega) (by first | omega | (dsimp only; omega)) (by omega)) rfl (fun _ _ => ?_)
            rintro ⟨b24, rfl, rfl⟩
            refine ⟨.none (by kernel_rfl), ?_⟩
            refine m_float0 rfl (fun _ _ => p_build (by rfl) rfl (by rfl)) rfl ?_
            refine m_eff rfl (e_box rfl (by rfl)) rfl (fun _ _ => ?_)
            rintro ⟨b28, rfl, rfl⟩
            refine ⟨.none (by kernel_rfl), ?_⟩
            refine m_float0 rfl (fun _ _ => p_assign rfl) rfl ?_
            refine m_nil ?_
            refine g_qn ?_
            exact g_joined (b28, b20, b22, b24, b26, na, nc) (by (repeat (first | exact trivial | refine ⟨by rfl, ?_⟩)); done) (by repeat' (first | exact Cover.nil | exact Take.here | apply Cover.cons | apply Take.there)) trivial
          refine m_or ?_ ?_
          · refine m_eff rfl (e_make (by rfl) (by rfl) rfl rfl (by omega) (by first | omega | (dsimp only; omega)) (by omega)) rfl (fun _ _ => ?_)
            rintro ⟨b24, rfl, rfl⟩
            refine ⟨.none (by kernel_rfl), ?_⟩
            refine m_or ?_ ?_
            · refine m_eff rfl (e_make (by rfl) (by rfl) rfl rfl (by omega) (by first | omega | (dsimp only; omega)) (by omega)) rfl (fun _ _ => ?_)
              rintro ⟨b20, rfl, rfl⟩
              refine ⟨.none (by kernel_rfl), ?_⟩
              refine m_eff rfl (e_make (by rfl) (by rfl) rfl rfl (by omega) (by first | omega | (dsimp only; omega)) (by omega)) rfl (fun _ _ => ?_)
              rintro ⟨b26, rfl, rfl⟩
              refine ⟨.none (by kernel_rfl), ?_⟩
              refine m_float0 rfl (fun _ _ => p_build (by rfl) rfl (by rfl)) rfl ?_
              refine m_eff rfl (e_box rfl (by rfl)) rfl (fun _ _ => ?_)
              rintro ⟨b28, rfl, rfl⟩
              refine ⟨.none (by kernel_rfl), ?_⟩
              refine m_float0 rfl (fun _ _ => p_assign rfl) rfl ?_
              refine m_nil ?_
              refine g_qn ?_
              exact g_joined (b28, b20, b22, b24, b26, na, nc) (by (repeat (first | exact trivial | refine ⟨by rfl, ?_⟩)); done) (by repeat' (first | exact Cover.nil | exact Take.here | apply Cover.cons | apply Take.there)) trivial
            refine m_eff rfl (e_make (by rfl) (by rfl) rfl rfl (by omega) (by first | omega | (dsimp only; omega)) (by omega)) rfl (fun _ _ => ?_)
            rintro ⟨b26, rfl, rfl⟩
            refine ⟨.none (by kernel_rfl), ?_⟩
            refine m_eff rfl (e_make (by rfl) (by rfl) rfl rfl (by omega) (by first | omega | (dsimp only; omega)) (by omega)) rfl (fun _ _ => ?_)
            rintro ⟨b20, rfl, rfl⟩
            refine ⟨.none (by kernel_rfl), ?_⟩
            refine m_float0 rfl (fun _ _ => p_build (by rfl) rfl (by rfl)) rfl ?_
            refine m_eff rfl (e_box rfl (by rfl)) rfl (fun _ _ => ?_)
            rintro ⟨b28, rfl, rfl⟩
            refine ⟨.none (by kernel_rfl), ?_⟩
            refine m_float0 rfl (fun _ _ => p_assign rfl) rfl ?_
            refine m_nil ?_
            refine g_qn ?_
            exact g_joined (b28, b20, b22, b24, b26, na, nc) (by (repeat (first | exact trivial | refine ⟨by rfl, ?_⟩)); done) (by repeat' (first | exact Cover.nil | exact Take.here | apply Cover.cons | apply Take.there)) trivial
          refine m_eff rfl (e_make (by rfl) (by rfl) rfl rfl (by omega) (by first | omega | (dsimp only; omega)) (by omega)) rfl (fun _ _ => ?_)
          rintro ⟨b26, rfl, rfl⟩
          refine ⟨.none (by kernel_rfl), ?_⟩
          refine m_or ?_ ?_
          · refine m_eff rfl (e_make (by rfl) (by rfl) rfl rfl (by omega) (by first | omega | (dsimp only; omega)) (by omega)) rfl (fun _ _ => ?_)
            rintro ⟨b20, rfl, rfl⟩
            refine ⟨.none (by kernel_rfl), ?_⟩
            refine m_eff rfl (e_make (by rfl) (by rfl) rfl rfl (by omega) (by first | omega | (dsimp only; omega)) (by omega)) rfl (fun _ _ => ?_)
            rintro ⟨b24, rfl, rfl⟩
            refine ⟨.none (by kernel_rfl), ?_⟩
            refine m_float0 rfl (fun _ _ => p_build (by rfl) rfl (by rfl)) rfl ?_
            refine m_eff rfl (e_box rfl (by rfl)) rfl (fun _ _ => ?_)
            rintro ⟨b28, rfl, rfl⟩
            refine ⟨.none (by kernel_rfl), ?_⟩
            refine m_float0 rfl (fun _ _ => p_assign rfl) rfl ?_
            refine m_nil ?_
            refine g_qn ?_
            exact g_joined (b28, b20, b22, b24, b26, na, nc) (by (repeat (first | exact trivial | refine ⟨by rfl, ?_⟩)); done) (by repeat' (first | exact Cover.nil | exact Take.here | apply Cover.cons | apply Take.there)) trivial
          refine m_eff rfl (e_make (by rfl) (by rfl) rfl rfl (by omega) (by first | omega | (dsimp only; omega)) (by omega)) rfl (fun _ _ => ?_)
          rintro ⟨b24, rfl, rfl⟩
          refine ⟨.none (by kernel_rfl), ?_⟩
          refine m_eff rfl (e_make (by rfl) (by rfl) rfl rfl (by omega) (by first | omega | (dsimp only; omega)) (by omega)) rfl (fun _ _ => ?_)
          rintro ⟨b20, rfl, rfl⟩
          refine ⟨.none (by kernel_rfl), ?_⟩
          refine m_float0 rfl (fun _ _ => p_build (by rfl) rfl (by rfl)) rfl ?_
          refine m_eff rfl (e_box rfl (by rfl)) rfl (fun _ _ => ?_)
          rintro ⟨b28, rfl, rfl⟩
          refine ⟨.none (by kernel_rfl), ?_⟩
          refine m_float0 rfl (fun _ _ => p_assign rfl) rfl ?_
          refine m_nil ?_
          refine g_qn ?_
          exact g_joined (b28, b20, b22, b24, b26, na, nc) (by (repeat (first | exact trivial | refine ⟨by rfl, ?_⟩)); done) (by repeat' (first | exact Cover.nil | exact Take.here | apply Cover.cons | apply Take.there)) trivial
        refine m_or ?_ ?_
        · refine m_eff rfl (e_make (by rfl) (by rfl) rfl rfl (by omega) (by first | omega | (dsimp only; omega)) (by omega)) rfl (fun _ _ => ?_)
          rintro ⟨b20, rfl, rfl⟩
          refine ⟨.none (by kernel_rfl), ?_⟩
          refine m_or ?_ ?_
          · refine m_call (Hin := []) (Hr := ?hr20) (R := ?rr20) rfl wantedN rfl rfl rfl ?hin20 ?hc20 ?hk20
            case hin20 => repeat' (first | exact Cover.nil | exact Take.here | apply Cover.cons | apply Take.there)
            case hc20 => intro ρ' hρ hR; exact neigh_ok m a c E (hE.mono hρ) hlE hm ho
            rintro _ _ ⟨na, nc, rfl, rfl⟩
            refine ⟨.none (by kernel_rfl), ?_⟩
            refine m_or ?_ ?_
            · refine m_eff rfl (e_make (by rfl) (by rfl) rfl rfl (by omega) (by first | omega | (dsimp only; omega)) (by omega)) rfl (fun _ _ => ?_)
              rintro ⟨b24, rfl, rfl⟩
              refine ⟨.none (by kernel_rfl), ?_⟩
              refine m_eff rfl (e_make (by rfl) (by rfl) rfl rfl (by omega) (by first | omega | (dsimp only; omega)) (by omega)) rfl (fun _ _ => ?_)
              rintro ⟨b26, rfl, rfl⟩
              refine ⟨.none (by kernel_rfl), ?_⟩
              refine m_float0 rfl (fun _ _ => p_build (by rfl) rfl (by rfl)) rfl ?_
              refine m_eff rfl (e_box rfl (by rfl)) rfl (fun _ _ => ?_)
              rintro ⟨b28, rfl, rfl⟩
              refine ⟨.none (by kernel_rfl), ?_⟩
              refine m_float0 rfl (fun _ _ => p_assign rfl) rfl ?_
              refine m_nil ?_
              refine g_qn ?_
              exact g_joined (b28, b20, b22, b24, b26, na, nc) (by (repeat (first | exact trivial | refine ⟨by rfl, ?_⟩)); done) (by repeat' (first | exact Cover.nil | exact Take.here | apply Cover.cons | apply Take.there)) trivial
            refine m_eff rfl (e_make (by rfl) (by rfl) rfl rfl (by omega) (by first | omega | (dsimp only; omega)) (by omega)) rfl (fun _ _ => ?_)
            rintro ⟨b26, rfl, rfl⟩
            refine ⟨.none (by kernel_rfl), ?_⟩
            refine m_eff rfl (e_make (by rfl) (by rfl) rfl rfl (by omega) (by first | omega | (dsimp only; omega)) (by omega)) rfl (fun _ _ => ?_)
            rintro ⟨b24, rfl, rfl⟩
            refine ⟨.none (by kernel_rfl), ?_⟩
            refine m_float0 rfl (fun _ _ => p_build (by rfl) rfl (by rfl)) rfl ?_
            refine m_eff rfl (e_box rfl (by rfl)) rfl (fun _ _ => ?_)
            rintro ⟨b28, rfl, rfl⟩
            refine ⟨.none (by kernel_rfl), ?_⟩
            refine m_float0 rfl (fun _ _ => p_assign rfl) rfl ?_
            refine m_nil ?_
            refine g_qn ?_
            exact g_joined (b28, b20, b22, b24, b26, na, nc) (by (repeat (first | exact trivial | refine ⟨by rfl, ?_⟩)); done) (by repeat' (first | exact Cover.nil | exact Take.here | apply Cover.cons | apply Take.there)) trivial
          refine m_or ?_ ?_
          · refine m_eff rfl (e_make (by rfl) (by rfl) rfl rfl (by omega) (by first | omega | (dsimp only; omega)) (by omega)) rfl (fun _ _ => ?_)
            rintro ⟨b24, rfl, rfl⟩
            refine ⟨.none (by kernel_rfl), ?_⟩
            refine m_or ?_ ?_
            · refine m_call (Hin := []) (Hr := ?hr21) (R := ?rr21) rfl wantedN rfl rfl rfl ?hin21 ?hc21 ?hk21
              case hin21 => repeat' (first | exact Cover.nil | exact Take.here | apply Cover.cons | apply Take.there)
              case hc21 => intro ρ' hρ hR; exact neigh_ok m a c E (hE.mono hρ) hlE hm ho
              rintro _ _ ⟨na, nc, rfl, rfl⟩
              refine ⟨.none (by kernel_rfl), ?_⟩
              refine m_eff rfl (e_make (by rfl) (by rfl) rfl rfl (by omega) (by first | omega | (dsimp only; omega)) (by omega)) rfl (fun _ _ => ?_)
              rintro ⟨b26, rfl, rfl⟩
              refine ⟨.none (by kernel_rfl), ?_⟩
              refine m_float0 rfl (fun _ _ => p_build (by rfl) rfl (by rfl)) rfl ?_
              refine m_eff rfl (e_box rfl (by rfl)) rfl (fun _ _ => ?_)
              rintro ⟨b28, rfl, rfl⟩
              refine ⟨.none (by kernel_rfl), ?_⟩
              refine m_float0 rfl (fun _ _ => p_assign rfl) rfl ?_
              refine m_nil ?_
              refine g_qn ?_
              exact g_joined (b28, b20, b22, b24, b26, na, nc) (by (repeat (first | exact trivial | refine ⟨by rfl, ?_⟩)); done) (by repeat' (first | exact Cover.nil | exact Take.here | apply Cover.cons | apply Take.there)) trivial
            refine m_eff rfl (e_make (by rfl) (by rfl) rfl rfl (by omega) (by first | omega | (dsimp only; omega)) (by omega)) rfl (fun _ _ => ?_)
            rintro ⟨b26, rfl, rfl⟩
            refine ⟨.none (by kernel_rfl), ?_⟩
            refine m_call (Hin := []) (Hr := ?hr22) (R := ?rr22) rfl wantedN rfl rfl rfl ?hin22 ?hc22 ?hk22
            case hin22 => repeat' (first | exact Cover.nil | exact Take.here | apply Cover.cons | apply Take.there)
            case hc22 => intro ρ' hρ hR; exact neigh_ok m a c E (hE.mono hρ) hlE hm ho
            rintro _ _ ⟨na, nc, rfl, rfl⟩
            refine ⟨.none (by kernel_rfl), ?_⟩
            refine m_float0 rfl (fun _ _ => p_build (by rfl) rfl (by rfl)) rfl ?_
            refine m_eff rfl (e_box rfl (by rfl)) rfl (fun _ _ => ?_)
            rintro ⟨b28, rfl, rfl⟩
            refine ⟨.none (by kernel_rfl), ?_⟩
            refine m_float0 rfl (fun _ _ => p_assign rfl) rfl ?_
            refine m_nil ?_
            refine g_qn ?_
            exact g_joined (b28, b20, b22, b24, b26, na, nc) (by (repeat (first | exact trivial | refine ⟨by rfl, ?_⟩)); done) (by repeat' (first | exact Cover.nil | exact Take.here | apply Cover.cons | apply Take.there)) trivial
          refine m_eff rfl (e_make (by rfl) (by rfl) rfl rfl (by omega) (by first | omega | (dsimp only; omega)) (by omega)) rfl (fun _ _ => ?_)
          rintro ⟨b26, rfl, rfl⟩
          refine ⟨.none (by kernel_rfl), ?_⟩
          refine m_or ?_ ?_
          · refine m_call (Hin := []) (Hr := ?hr23) (R := ?rr23) rfl wantedN rfl rfl rfl ?hin23 ?hc23 ?hk23
            case hin23 => repeat' (first | exact Cover.nil | exact Take.here | apply Cover.cons | apply Take.there)
            case hc23 => intro ρ' hρ hR; exact neigh_ok m a c E (hE.mono hρ) hlE hm ho
            rintro _ _ ⟨na, nc, rfl, rfl⟩
            refine ⟨.none (by kernel_rfl), ?_⟩
            refine m_eff rfl (e_make (by rfl) (by rfl) rfl rfl (by omega) (by first | omega | (dsimp only; omega)) (by omega)) rfl (fun _ _ => ?_)
            rintro ⟨b24, rfl, rfl⟩
            refine ⟨.none (by kernel_rfl), ?_⟩
            refine m_float0 rfl (fun _ _ => p_build (by rfl) rfl (by rfl)) rfl ?_
            refine m_eff rfl (e_box rfl (by rfl)) rfl (fun _ _ => ?_)
            rintro ⟨b28, rfl, rfl⟩
            refine ⟨.none (by kernel_rfl), ?_⟩
            refine m_float0 rfl (fun _ _ => p_assign rfl) rfl ?_
            refine m_nil ?_
            refine g_qn ?_
            exact g_joined (b28, b20, b22, b24, b26, na, nc) (by (repeat (first | exact trivial | refine ⟨by rfl, ?_⟩)); done) (by repeat' (first | exact Cover.nil | exact Take.here | apply Cover.cons | apply Take.there)) trivial
          refine m_eff rfl (e_make (by rfl) (by rfl) rfl rfl (by omega) (by first | omega | (dsimp only; omega)) (by omega)) rfl (fun _ _ => ?_)
          rintro ⟨b24, rfl, rfl⟩
          refine ⟨.none (by kernel_rfl), ?_⟩
          refine m_call (Hin := []) (Hr := ?hr24) (R := ?rr24) rfl wantedN rfl rfl rfl ?hin24 ?hc24 ?hk24
          case hin24 => repeat' (first | exact Cover.nil | exact Take.here | apply Cover.cons | apply Take.there)
          case hc24 => intro ρ' hρ hR; exact neigh_ok m a c E (hE.mono hρ) hlE hm ho
          rintro _ _ ⟨na, nc, rfl, rfl⟩
          refine ⟨.none (by kernel_rfl), ?_⟩
          refine m_float0 rfl (fun _ _ => p_build (by rfl) rfl (by rfl)) rfl ?_
          refine m_eff rfl (e_box rfl (by rfl)) rfl (fun _ _ => ?_)
          rintro ⟨b28, rfl, rfl⟩
          refine ⟨.none (by kernel_rfl), ?_⟩
          refine m_float0 rfl (fun _ _ => p_assign rfl) rfl ?_
          refine m_nil ?_
          refine g_qn ?_
          exact g_joined (b28, b20, b22, b24, b26, na, nc) (by (repeat (first | exact trivial | refine ⟨by rfl, ?_⟩)); done) (by repeat' (first | exact Cover.nil | exact Take.here | apply Cover.cons | apply Take.there)) trivial
        refine m_or ?_ ?_
        · refine m_eff rfl (e_make (by rfl) (by rfl) rfl rfl (by omega) (by first | omega | (dsimp only; omega)) (by omega)) rfl (fun _ _ => ?_)
          rintro ⟨b24, rfl, rfl⟩
          refine ⟨.none (by kernel_rfl), ?_⟩
          refine m_or ?_ ?_
          · refine m_call (Hin := []) (Hr := ?hr25) (R := ?rr25) rfl wantedN rfl rfl rfl ?hin25 ?hc25 ?hk25
            case hin25 => repeat' (first | exact Cover.nil | exact Take.here | apply Cover.cons | apply Take.there)
            case hc25 => intro ρ' hρ hR; exact neigh_ok m a c E (hE.mono hρ) hlE hm ho
            rintro _ _ ⟨na, nc, rfl, rfl⟩
            refine ⟨.none (by kernel_rfl), ?_⟩
            refine m_or ?_ ?_
            · refine m_eff rfl (e_make (by rfl) (by rfl) rfl rfl (by omega) (by first | omega | (dsimp only; omega)) (by omega)) rfl (fun _ _ => ?_)
              rintro ⟨b20, rfl, rfl⟩
              refine ⟨.none (by kernel_rfl), ?_⟩
              refine m_eff rfl (e_make (by rfl) (by rfl) rfl rfl (by omega) (by first | omega | (dsimp only; omega)) (by omega)) rfl (fun _ _ => ?_)
              rintro ⟨b26, rfl, rfl⟩
              refine ⟨.none (by kernel_rfl), ?_⟩
              refine m_float0 rfl (fun _ _ => p_build (by rfl) rfl (by rfl)) rfl ?_
              refine m_eff rfl (e_box rfl (by rfl)) rfl (fun _ _ => ?_)
              rintro ⟨b28, rfl, rfl⟩
              refine ⟨.none (by kernel_rfl), ?_⟩
              refine m_float0 rfl (fun _ _ => p_assign rfl) rfl ?_
              refine m_nil ?_
              refine g_qn ?_
              exact g_joined (b28, b20, b22, b24, b26, na, nc) (by (repeat (first | exact trivial | refine ⟨by rfl, ?_⟩)); done) (by repeat' (first | exact Cover.nil | exact Take.here | apply Cover.cons | apply Take.there)) trivial
            refine m_eff rfl (e_make (by rfl) (by rfl) rfl rfl (by omega) (by first | omega | (dsimp only; omega)) (by omega)) rfl (fun _ _ => ?_)
            rintro ⟨b26, rfl, rfl⟩
            refine ⟨.none (by kernel_rfl), ?_⟩
            refine m_eff rfl (e_make (by rfl) (by rfl) rfl rfl (by omega) (by first | omega | (dsimp only; omega)) (by omega)) rfl (fun _ _ => ?_)
            rintro ⟨b20, rfl, rfl⟩
            refine ⟨.none (by kernel_rfl), ?_⟩
            refine m_float0 rfl (fun _ _ => p_build (by rfl) rfl (by rfl)) rfl ?_
            refine m_eff rfl (e_box rfl (by rfl)) rfl (fun _ _ => ?_)
            rintro ⟨b28, rfl, rfl⟩
            refine ⟨.none (by kernel_rfl), ?_⟩
            refine m_float0 rfl (fun _ _ => p_assign rfl) rfl ?_
            refine m_nil ?_
            refine g_qn ?_
            exact g_joined (b28, b20, b22, b24, b26, na, nc) (by (repeat (first | exact trivial | refine ⟨by rfl, ?_⟩)); done) (by repeat' (first | exact Cover.nil | exact Take.here | apply Cover.cons | apply Take.there)) trivial
          refine m_or ?_ ?_
          · refine m_eff rfl (e_make (by rfl) (by rfl) rfl rfl (by omega) (by first | omega | (dsimp only; omega)) (by omega)) rfl (fun _ _ => ?_)
            rintro ⟨b20, rfl, rfl⟩
            refine ⟨.none (by kernel_rfl), ?_⟩
            refine m_or ?_ ?_
            · refine m_call (Hin := []) (Hr := ?hr26) (R := ?rr26) rfl wantedN rfl rfl rfl ?hin26 ?hc26 ?hk26
              case hin26 => repeat' (first | exact Cover.nil | exact Take.here | apply Cover.cons | apply Take.there)
              case hc26 => intro ρ' hρ hR; exact neigh_ok m a c E (hE.mono hρ) hlE hm ho
              rintro _ _ ⟨na, nc, rfl, rfl⟩
              refine ⟨.none (by kernel_rfl), ?_⟩
              refine m_eff rfl (e_make (by rfl) (by rfl) rfl rfl (by omega) (by first | omega | (dsimp only; omega)) (by omega)) rfl (fun _ _ => ?_)
              rintro ⟨b26, rfl, rfl⟩
              refine ⟨.none (by kernel_rfl), ?_⟩
              refine m_float0 rfl (fun _ _ => p_build (by rfl) rfl (by rfl)) rfl ?_
              refine m_eff rfl (e_box rfl (by rfl)) rfl (fun _ _ => ?_)
              rintro ⟨b28, rfl, rfl⟩
              refine ⟨.none (by kernel_rfl), ?_⟩
              refine m_float0 rfl (fun _ _ => p_assign rfl) rfl ?_
              refine m_nil ?_
              refine g_qn ?_
              exact g_joined (b28, b20, b22, b24, b26, na, nc) (by (repeat (first | exact trivial | refine ⟨by rfl, ?_⟩)); done) (by repeat' (first | exact Cover.nil | exact Take.here | apply Cover.cons | apply Take.there)) trivial
            refine m_eff rfl (e_make (by rfl) (by rfl) rfl rfl (by omega) (by first | omega | (dsimp only; omega)) (by omega)) rfl (fun _ _ => ?_)
            rintro ⟨b26, rfl, rfl⟩
            refine ⟨.none (by kernel_rfl), ?_⟩
            refine m_call (Hin := []) (Hr := ?hr27) (R := ?rr27) rfl wantedN rfl rfl rfl ?hin27 ?hc27 ?hk27
            case hin27 => repeat' (first | exact Cover.nil | exact Take.here | apply Cover.cons | apply Take.there)
            case hc27 => intro ρ' hρ hR; exact neigh_ok m a c E (hE.mono hρ) hlE hm ho
            rintro _ _ ⟨na, nc, rfl, rfl⟩
            refine ⟨.none (by kernel_rfl), ?_⟩
            refine m_float0 rfl (fun _ _ => p_build (by rfl) rfl (by rfl)) rfl ?_
            refine m_eff rfl (e_box rfl (by rfl)) rfl (fun _ _ => ?_)
            rintro ⟨b28, rfl, rfl⟩
            refine ⟨.none (by kernel_rfl), ?_⟩
            refine m_float0 rfl (fun _ _ => p_assign rfl) rfl ?_
            refine m_nil ?_
            refine g_qn ?_
            exact g_joined (b28, b20, b22, b24, b26, na, nc) (by (repeat (first | exact trivial | refine ⟨by rfl, ?_⟩)); done) (by repeat' (first | exact Cover.nil | exact Take.here | apply Cover.cons | apply Take.there)) trivial
          refine m_eff rfl (e_make (by rfl) (by rfl) rfl rfl (by omega) (by first | omega | (dsimp only; omega)) (by omega)) rfl (fun _ _ => ?_)
          rintro ⟨b26, rfl, rfl⟩
          refine ⟨.none (by kernel_rfl), ?_⟩
          refine m_or ?_ ?_
          · refine m_call (Hin := []) (Hr := ?hr28) (R := ?rr28) rfl wantedN rfl rfl rfl ?hin28 ?hc28 ?hk28
            case hin28 => repeat' (first | exact Cover.nil | exact Take.here | apply Cover.cons | apply Take.there)
            case hc28 => intro ρ' hρ hR; exact neigh_ok m a c E (hE.mono hρ) hlE hm ho
            rintro _ _ ⟨na, nc, rfl, rfl⟩
            refine ⟨.none (by kernel_rfl), ?_⟩
            refine m_eff rfl (e_make (by rfl) (by rfl) rfl rfl (by omega) (by first | omega | (dsimp only; omega)) (by omega)) rfl (fun _ _ => ?_)
            rintro ⟨b20, rfl, rfl⟩
            refine ⟨.none (by kernel_rfl), ?_⟩
            refine m_float0 rfl (fun _ _ => p_build (by rfl) rfl (by rfl)) rfl ?_
            refine m_eff rfl (e_box rfl (by rfl)) rfl (fun _ _ => ?_)
            rintro ⟨b28, rfl, rfl⟩
            refine ⟨.none (by kernel_rfl), ?_⟩
            refine m_float0 rfl (fun _ _ => p_assign rfl) rfl ?_
            refine m_nil ?_
            refine g_qn ?_
            exact g_joined (b28, b20, b22, b24, b26, na, nc) (by (repeat (first | exact trivial | refine ⟨by rfl, ?_⟩)); done) (by repeat' (first | exact Cover.nil | exact Take.here | apply Cover.cons | apply Take.there)) trivial
          refine m_eff rfl (e_make (by rfl) (by rfl) rfl rfl (by omega) (by first | omega | (dsimp only; omega)) (by omega)) rfl (fun _ _ => ?_)
          rintro ⟨b20, rfl, rfl⟩
          refine ⟨.none (by kernel_rfl), ?_⟩
          refine m_call (Hin := []) (Hr := ?hr29) (R := ?rr29) rfl wantedN rfl rfl rfl ?hin29 ?hc29 ?hk29
          case hin29 => repeat' (first | exact Cover.nil | exact Take.here | apply Cover.cons | apply Take.there)
          case hc29 => intro ρ' hρ hR; exact neigh_ok m a c E (hE.mono hρ) hlE hm ho
          rintro _ _ ⟨na, nc, rfl, rfl⟩
          refine ⟨.none (by kernel_rfl), ?_⟩
          refine m_float0 rfl (fun _ _ => p_build (by rfl) rfl (by rfl)) rfl ?_
          refine m_eff rfl (e_box rfl (by rfl)) rfl (fun _ _ => ?_)
          rintro ⟨b28, rfl, rfl⟩
          refine ⟨.none (by kernel_rfl), ?_⟩
          refine m_float0 rfl (fun _ _ => p_assign rfl) rfl ?_
          refine m_nil ?_
          refine g_qn ?_
          exact g_joined (b28, b20, b22, b24, b26, na, nc) (by (repeat (first | exact trivial | refine ⟨by rfl, ?_⟩)); done) (by repeat' (first | exact Cover.nil | exact Take.here | apply Cover.cons | apply Take.there)) trivial
        refine m_eff rfl (e_make (by rfl) (by rfl) rfl rfl (by omega) (by first | omega | (dsimp only; omega)) (by omega)) rfl (fun _ _ => ?_)
        rintro ⟨b26, rfl, rfl⟩
        refine ⟨.none (by kernel_rfl), ?_⟩
        refine m_or ?_ ?_
        · refine m_call (Hin := []) (Hr := ?hr30) (R := ?rr30) rfl wantedN rfl rfl rfl ?hin30 ?hc30 ?hk30
          case hin30 => repeat' (first | exact Cover.nil | exact Take.here | apply Cover.cons | apply Take.there)
          case hc30 => intro ρ' hρ hR; exact neigh_ok m a c E (hE.mono hρ) hlE hm ho
          rintro _ _ ⟨na, nc, rfl, rfl⟩
          refine ⟨.none (by kernel_rfl), ?_⟩
          refine m_or ?_ ?_
          · refine m_eff rfl (e_make (by rfl) (by rfl) rfl rfl (by omega) (by first | omega | (dsimp only; omega)) (by omega)) rfl (fun _ _ => ?_)
            rintro ⟨b20, rfl, rfl⟩
            refine ⟨.none (by kernel_rfl), ?_⟩
            refine m_eff rfl (e_make (by rfl) (by rfl) rfl rfl (by omega) (by first | omega | (dsimp only; omega)) (by omega)) rfl (fun _ _ => ?_)
            rintro ⟨b24, rfl, rfl⟩
            refine ⟨.none (by kernel_rfl), ?_⟩
            refine m_float0 rfl (fun _ _ => p_build (by rfl) rfl (by rfl)) rfl ?_
            refine m_eff rfl (e_box rfl (by rfl)) rfl (fun _ _ => ?_)
            rintro ⟨b28, rfl, rfl⟩
            refine ⟨.none (by kernel_rfl), ?_⟩
            refine m_float0 rfl (fun _ _ => p_assign rfl) rfl ?_
            refine m_nil ?_
            refine g_qn ?_
            exact g_joined (b28, b20, b22, b24, b26, na, nc) (by (repeat (first | exact trivial | refine ⟨by rfl, ?_⟩)); done) (by repeat' (first | exact Cover.nil | exact Take.here | apply Cover.cons | apply Take.there)) trivial
          refine m_eff rfl (e_make (by rfl) (by rfl) rfl rfl (by omega) (by first | omega | (dsimp only; omega)) (by omega)) rfl (fun _ _ => ?_)
          rintro ⟨b24, rfl, rfl⟩
          refine ⟨.none (by kernel_rfl), ?_⟩
          refine m_eff rfl (e_make (by rfl) (by rfl) rfl rfl (by omega) (by first | omega | (dsimp only; omega)) (by omega)) rfl (fun _ _ => ?_)
          rintro ⟨b20, rfl, rfl⟩
          refine ⟨.none (by kernel_rfl), ?_⟩
          refine m_float0 rfl (fun _ _ => p_build (by rfl) rfl (by rfl)) rfl ?_
          refine m_eff rfl (e_box rfl (by rfl)) rfl (fun _ _ => ?_)
          rintro ⟨b28, rfl, rfl⟩
          refine ⟨.none (by kernel_rfl), ?_⟩
          refine m_float0 rfl (fun _ _ => p_assign rfl) rfl ?_
          refine m_nil ?_
          refine g_qn ?_
          exact g_joined (b28, b20, b22, b24, b26, na, nc) (by (repeat (first | exact trivial | refine ⟨by rfl, ?_⟩)); done) (by repeat' (first | exact Cover.nil | exact Take.here | apply Cover.cons | apply Take.there)) trivial
        refine m_or ?_ ?_
        · refine m_eff rfl (e_make (by rfl) (by rfl) rfl rfl (by omega) (by first | omega | (dsimp only; omega)) (by omega)) rfl (fun _ _ => ?_)
          rintro ⟨b20, rfl, rfl⟩
          refine ⟨.none (by kernel_rfl), ?_⟩
          refine m_or ?_ ?_
          · refine m_call (Hin := []) (Hr := ?hr31) (R := ?rr31) rfl wantedN rfl rfl rfl ?hin31 ?hc31 ?hk31
            case hin31 => repeat' (first | exact Cover.nil | exact Take.here | apply Cover.cons | apply Take.there)
            case hc31 => intro ρ' hρ hR; exact neigh_ok m a c E (hE.mono hρ) hlE hm ho
            rintro _ _ ⟨na, nc, rfl, rfl⟩
            refine ⟨.none (by kernel_rfl), ?_⟩
            refine m_eff rfl (e_make (by rfl) (by rfl) rfl rfl (by omega) (by first | omega | (dsimp only; omega)) (by omega)) rfl (fun _ _ => ?_)
            rintro ⟨b24, rfl, rfl⟩
            refine ⟨.none (by kernel_rfl), ?_⟩
            refine m_float0 rfl (fun _ _ => p_build (by rfl) rfl (by rfl)) rfl ?_
            refine m_eff rfl (e_box rfl (by rfl)) rfl (fun _ _ => ?_)
            rintro ⟨b28, rfl, rfl⟩
            refine ⟨.none (by kernel_rfl), ?_⟩
            refine m_float0 rfl (fun _ _ => p_assign rfl) rfl ?_
            refine m_nil ?_
            refine g_qn ?_
            exact g_joined (b28, b20, b22, b24, b26, na, nc) (by (repeat (first | exact trivial | refine ⟨by rfl, ?_⟩)); done) (by repeat' (first | exact Cover.nil | exact Take.here | apply Cover.cons | apply Take.there)) trivial
          refine m_eff rfl (e_make (by rfl) (by rfl) rfl rfl (by omega) (by first | omega | (dsimp only; omega)) (by omega)) rfl (fun _ _ => ?_)
          rintro ⟨b24, rfl, rfl⟩
          refine ⟨.none (by kernel_rfl), ?_⟩
          refine m_call (Hin := []) (Hr := ?hr32) (R := ?rr32) rfl wantedN rfl rfl rfl ?hin32 ?hc32 ?hk32
          case hin32 => repeat' (first | exact Cover.nil | exact Take.here | apply Cover.cons | apply Take.there)
          case hc32 => intro ρ' hρ hR; exact neigh_ok m a c E (hE.mono hρ) hlE hm ho
          rintro _ _ ⟨na, nc, rfl, rfl⟩
          refine ⟨.none (by kernel_rfl), ?_⟩
          refine m_float0 rfl (fun _ _ => p_build (by rfl) rfl (by rfl)) rfl ?_
          refine m_eff rfl (e_box rfl (by rfl)) rfl (fun _ _ => ?_)
          rintro ⟨b28, rfl, rfl⟩
          refine ⟨.none (by kernel_rfl), ?_⟩
          refine m_float0 rfl (fun _ _ => p_assign rfl) rfl ?_
          refine m_nil ?_
          refine g_qn ?_
          exact g_joined (b28, b20, b22, b24, b26, na, nc) (by (repeat (first | exact trivial | refine ⟨by rfl, ?_⟩)); done) (by repeat' (first | exact Cover.nil | exact Take.here | apply Cover.cons | apply Take.there)) trivial
        refine m_eff rfl (e_make (by rfl) (by rfl) rfl rfl (by omega) (by first | omega | (dsimp only; omega)) (by omega)) rfl (fun _ _ => ?_)
        rintro ⟨b24, rfl, rfl⟩
        refine ⟨.none (by kernel_rfl), ?_⟩
        refine m_or ?_ ?_
        · refine m_call (Hin := []) (Hr := ?hr33) (R := ?rr33) rfl wantedN rfl rfl rfl ?hin33 ?hc33 ?hk33
          case hin33 => repeat' (first | exact Cover.nil | exact Take.here | apply Cover.cons | apply Take.there)
          case hc33 => intro ρ' hρ hR; exact neigh_ok m a c E (hE.mono hρ) hlE hm ho
          rintro _ _ ⟨na, nc, rfl, rfl⟩
          refine ⟨.none (by kernel_rfl), ?_⟩
          refine m_eff rfl (e_make (by rfl) (by rfl) rfl rfl (by omega) (by first | omega | (dsimp only; omega)) (by omega)) rfl (fun _ _ => ?_)
          rintro ⟨b20, rfl, rfl⟩
          refine ⟨.none (by kernel_rfl), ?_⟩
          refine m_float0 rfl (fun _ _ => p_build (by rfl) rfl (by rfl)) rfl ?_
          refine m_eff rfl (e_box rfl (by rfl)) rfl (fun _ _ => ?_)
          rintro ⟨b28, rfl, rfl⟩
          refine ⟨.none (by kernel_rfl), ?_⟩
          refine m_float0 rfl (fun _ _ => p_assign rfl) rfl ?_
          refine m_nil ?_
          refine g_qn ?_
          exact g_joined (b28, b20, b22, b24, b26, na, nc) (by (repeat (first | exact trivial | refine ⟨by rfl, ?_⟩)); done) (by repeat' (first | exact Cover.nil | exact Take.here | apply Cover.cons | apply Take.there)) trivial
        refine m_eff rfl (e_make (by rfl) (by rfl) rfl rfl (by omega) (by first | omega | (dsimp only; omega)) (by omega)) rfl (fun _ _ => ?_)
        rintro ⟨b20, rfl, rfl⟩
        refine ⟨.none (by kernel_rfl), ?_⟩
        refine m_call (Hin := []) (Hr := ?hr34) (R := ?rr34) rfl wantedN rfl rfl rfl ?hin34 ?hc34 ?hk34
        case hin34 => repeat' (first | exact Cover.nil | exact Take.here | apply Cover.cons | apply Take.there)
        case hc34 => intro ρ' hρ hR; exact neigh_ok m a c E (hE.mono hρ) hlE hm ho
        rintro _ _ ⟨na, nc, rfl, rfl⟩
        refine ⟨.none (by kernel_rfl), ?_⟩
        refine m_float0 rfl (fun _ _ => p_build (by rfl) rfl (by rfl)) rfl ?_
        refine m_eff rfl (e_box rfl (by rfl)) rfl (fun _ _ => ?_)
        rintro ⟨b28, rfl, rfl⟩
        refine ⟨.none (by kernel_rfl), ?_⟩
        refine m_float0 rfl (fun _ _ => p_assign rfl) rfl ?_
        refine m_nil ?_
        refine g_qn ?_
        exact g_joined (b28, b20, b22, b24, b26, na, nc) (by (repeat (first | exact trivial | refine ⟨by rfl, ?_⟩)); done) (by repeat' (first | exact Cover.nil | exact Take.here | apply Cover.cons | apply Take.there)) trivial
      refine m_or ?_ ?_
      · refine m_eff rfl (e_make (by rfl) (by rfl) rfl rfl (by omega) (by first | omega | (dsimp only; omega)) (by omega)) rfl (fun _ _ => ?_)
        rintro ⟨b24, rfl, rfl⟩
        refine ⟨.none (by kernel_rfl), ?_⟩
        refine m_or ?_ ?_
        · refine m_call (Hin := []) (Hr := ?hr35) (R := ?rr35) rfl wantedN rfl rfl rfl ?hin35 ?hc35 ?hk35
          case hin35 => repeat' (first | exact Cover.nil | exact Take.here | apply Cover.cons | apply Take.there)
          case hc35 => intro ρ' hρ hR; exact neigh_ok m a c E (hE.mono hρ) hlE hm ho
          rintro _ _ ⟨na, nc, rfl, rfl⟩
          refine ⟨.none (by kernel_rfl), ?_⟩
          refine m_or ?_ ?_
          · refine m_eff rfl (e_make (by rfl) (by rfl) rfl rfl (by omega) (by first | omega | (dsimp only; omega)) (by omega)) rfl (fun _ _ => ?_)
            rintro ⟨b20, rfl, rfl⟩
            refine ⟨.none (by kernel_rfl), ?_⟩
            refine m_or ?_ ?_
            · refine m_eff rfl (e_make (by rfl) (by rfl) rfl rfl (by omega) (by first | omega | (dsimp only; omega)) (by omega)) rfl (fun _ _ => ?_)
              rintro ⟨b22, rfl, rfl⟩
              refine ⟨.none (by kernel_rfl), ?_⟩
              refine m_eff rfl (e_make (by rfl) (by rfl) rfl rfl (by omega) (by first | omega | (dsimp only; omega)) (by omega)) rfl (fun _ _ => ?_)
              rintro ⟨b26, rfl, rfl⟩
              refine ⟨.none (by kernel_rfl), ?_⟩
              refine m_float0 rfl (fun _ _ => p_build (by rfl) rfl (by rfl)) rfl ?_
              refine m_eff rfl (e_box rfl (by rfl)) rfl (fun _ _ => ?_)
              rintro ⟨b28, rfl, rfl⟩
              refine ⟨.none (by kernel_rfl), ?_⟩
              refine m_float0 rfl (fun _ _ => p_assign rfl) rfl ?_
              refine m_nil ?_
              refine g_qn ?_
              exact g_joined (b28, b20, b22, b24, b26, na, nc) (by (repeat (first | exact trivial | refine ⟨by rfl, ?_⟩)); done) (by repeat' (first | exact Cover.nil | exact Take.here | apply Cover.cons | apply Take.there)) trivial
            refine m_eff rfl (e_make (by rfl) (by rfl) rfl rfl (by omega) (by first | omega | (dsimp only; omega)) (by omega)) rfl (fun _ _ => ?_)
            rintro ⟨b26, rfl, rfl⟩
            refine ⟨.none (by kernel_rfl), ?_⟩
            refine m_eff rfl (e_make (by rfl) (by rfl) rfl rfl (by omega) (by first | omega | (dsimp only; omega)) (by omega)) rfl (fun _ _ => ?_)
            rintro ⟨b22, rfl, rfl⟩
            refine ⟨.none (by kernel_rfl), ?_⟩
            refine m_float0 rfl (fun _ _ => p_build (by rfl) rfl (by rfl)) rfl ?_
            refine m_eff rfl (e_box rfl (by rfl)) rfl (fun _ _ => ?_)
            rintro ⟨b28, rfl, rfl⟩
            refine ⟨.none (by kernel_rfl), ?_⟩
            refine m_float0 rfl (fun _ _ => p_assign rfl) rfl ?_
            refine m_nil ?_
            refine g_qn ?_
            exact g_joined (b28, b20, b22, b24, b26, na, nc) (by (repeat (first | exact trivial | refine ⟨by rfl, ?_⟩)); done) (by repeat' (first | exact Cover.nil | exact Take.here | apply Cover.cons | apply Take.there)) trivial
          refine m_or ?_ ?_
          · refine m_eff rfl (e_make (by rfl) (by rfl) rfl rfl (by omega) (by first | omega | (dsimp only; omega)) (by omega)) rfl (fun _ _ => ?_)
            rintro ⟨b22, rfl, rfl⟩
            refine ⟨.none (by kernel_rfl), ?_⟩
            refine m_or ?_ ?_
            · refine m_eff rfl (e_make (by rfl) (by rfl) rfl rfl (by omega) (by first | omega | (dsimp only; omega)) (by omega)) rfl (fun _ _ => ?_)
              rintro ⟨b20, rfl, rfl⟩
              refine ⟨.none (by kernel_rfl), ?_⟩
              refine m_eff rfl (e_make (by rfl) (by rfl) rfl rfl (by omega) (by first | omega | (dsimp only; omega)) (by omega)) rfl (fun _ _ => ?_)
              rintro ⟨b26, rfl, rfl⟩
              refine ⟨.none (by kernel_rfl), ?_⟩
              refine m_float0 rfl (fun _ _ => p_build (by rfl) rfl (by rfl)) rfl ?_
              refine m_eff rfl (e_box rfl (by rfl)) rfl (fun _ _ => ?_)
              rintro ⟨b28, rfl, rfl⟩
              refine ⟨.none (by kernel_rfl), ?_⟩
              refine m_float0 rfl (fun _ _ => p_assign rfl) rfl ?_
              refine m_nil ?_
              refine g_qn ?_
              exact g_joined (b28, b20, b22, b24, b26, na, nc) (by (repeat (first | exact trivial | refine ⟨by rfl, ?_⟩)); done) (by repeat' (first | exact Cover.nil | exact Take.here | apply Cover.cons | apply Take.there)) trivial
            refine m_eff rfl (e_make (by rfl) (by rfl) rfl rfl (by omega) (by first | omega | (dsimp only; omega)) (by omega)) rfl (fun _ _ => ?_)
            rintro ⟨b26, rfl, rfl⟩
            refine ⟨.none (by kernel_rfl), ?_⟩
            refine m_eff rfl (e_make (by rfl) (by rfl) rfl rfl (by omega) (by first | omega | (dsimp only; omega)) (by omega)) rfl (fun _ _ => ?_)
            rintro ⟨b20, rfl, rfl⟩
            refine ⟨.none (by kernel_rfl), ?_⟩
            refine m_float0 rfl (fun _ _ => p_build (by rfl) rfl (by rfl)) rfl ?_
            refine m_eff rfl (e_box rfl (by rfl)) rfl (fun _ _ => ?_)
            rintro ⟨b28, rfl, rfl⟩
            refine ⟨.none (by kernel_rfl), ?_⟩
            refine m_float0 rfl (fun _ _ => p_assign rfl) rfl ?_
            refine m_nil ?_
            refine g_qn ?_
            exact g_joined (b28, b20, b22, b24, b26, na, nc) (by (repeat (first | exact trivial | refine ⟨by rfl, ?_⟩)); done) (by repeat' (first | exact Cover.nil | exact Take.here | apply Cover.cons | apply Take.there)) trivial
          refine m_eff rfl (e_make (by rfl) (by rfl) rfl rfl (by omega) (by first | omega | (dsimp only; omega)) (by omega)) rfl (fun _ _ => ?_)
          rintro ⟨b26, rfl, rfl⟩
          refine ⟨.none (by kernel_rfl), ?_⟩
          refine m_or ?_ ?_
          · refine m_eff rfl (e_make (by rfl) (by rfl) rfl rfl (by omega) (by first | omega | (dsimp only; omega)) (by omega)) rfl (fun _ _ => ?_)
            rintro ⟨b20, rfl, rfl⟩
            refine ⟨.none (by kernel_rfl), ?_⟩
            refine m_eff rfl (e_make (by rfl) (by rfl) rfl rfl (by omega) (by first | omega | (dsimp only; omega)) (by omega)) rfl (fun _ _ => ?_)
            rintro ⟨b22, rfl, rfl⟩
            refine ⟨.none (by kernel_rfl), ?_⟩
            refine m_float0 rfl (fun _ _ => p_build (by rfl) rfl (by rfl)) rfl ?_
            refine m_eff rfl (e_box rfl (by rfl)) rfl (fun _ _ => ?_)
            rintro ⟨b28, rfl, rfl⟩
            refine ⟨.none (by kernel_rfl), ?_⟩
            refine m_float0 rfl (fun _ _ => p_assign rfl) rfl ?_
            refine m_nil ?_
            refine g_qn ?_
            exact g_joined (b28, b20, b22, b24, b26, na, nc) (by (repeat (first | exact trivial | refine ⟨by rfl, ?_⟩)); done) (by repeat' (first | exact Cover.nil | exact Take.here | apply Cover.cons | apply Take.there)) trivial
          refine m_eff rfl (e_make (by rfl) (by rfl) rfl rfl (by omega) (by first | omega | (dsimp only; omega)) (by omega)) rfl (fun _ _ => ?_)
          rintro ⟨b22, rfl, rfl⟩
          refine ⟨.none (by kernel_rfl), ?_⟩
          refine m_eff rfl (e_make (by rfl) (by rfl) rfl rfl (by omega) (by first | omega | (dsimp only; omega)) (by omega)) rfl (fun _ _ => ?_)
          rintro ⟨b20, rfl, rfl⟩
          refine ⟨.none (by kernel_rfl), ?_⟩
          refine m_float0 rfl (fun _ _ => p_build (by rfl) rfl (by rfl)) rfl ?_
          refine m_eff rfl (e_box rfl (by rfl)) rfl (fun _ _ => ?_)
          rintro ⟨b28, rfl, rfl⟩
          refine ⟨.none (by kernel_rfl), ?_⟩
          refine m_float0 rfl (fun _ _ => p_assign rfl) rfl ?_
          refine m_nil ?_
          refine g_qn ?_
          exact g_joined (b28, b20, b22, b24, b26, na, nc) (by (repeat (first | exact trivial | refine ⟨by rfl, ?_⟩)); done) (by repeat' (first | exact Cover.nil | exact Take.here | apply Cover.cons | apply Take.there)) trivial
        refine m_or ?_ ?_
        · refine m_eff rfl (e_make (by rfl) (by rfl) rfl rfl (by omega) (by first | omega | (dsimp only; omega)) (by omega)) rfl (fun _ _ => ?_)
          rintro ⟨b20, rfl, rfl⟩
          refine ⟨.none (by kernel_rfl), ?_⟩
          refine m_or ?_ ?_
          · refine m_call (Hin := []) (Hr := ?hr36) (R := ?rr36) rfl wantedN rfl rfl rfl ?hin36 ?hc36 ?hk36
            case hin36 => repeat' (first | exact Cover.nil | exact Take.here | apply Cover.cons | apply Take.there)
            case hc36 => intro ρ' hρ hR; exact neigh_ok m a c E (hE.mono hρ) hlE hm ho
            rintro _ _ ⟨na, nc, rfl, rfl⟩
            refine ⟨.none (by kernel_rfl), ?_⟩
            refine m_or ?_ ?_
            · refine m_eff rfl (e_make (by rfl) (by rfl) rfl rfl (by omega) (by first | omega | (dsimp only; omega)) (by omega)) rfl (fun _ _ => ?_)
              rintro ⟨b22, rfl, rfl⟩
              refine ⟨.none (by kernel_rfl), ?_⟩
              refine m_eff rfl (e_make (by rfl) (by rfl) rfl rfl (by omega) (by first | omega | (dsimp only; omega)) (by omega)) rfl (fun _ _ => ?_)
              rintro ⟨b26, rfl, rfl⟩
              refine ⟨.none (by kernel_rfl), ?_⟩
              refine m_float0 rfl (fun _ _ => p_build (by rfl) rfl (by rfl)) rfl ?_
              refine m_eff rfl (e_box rfl (by rfl)) rfl (fun _ _ => ?_)
              rintro ⟨b28, rfl, rfl⟩
              refine ⟨.none (by kernel_rfl), ?_⟩
              refine m_float0 rfl (fun _ _ => p_assign rfl) rfl ?_
              refine m_nil ?_
              refine g_qn ?_
              exact g_joined (b28, b20, b22, b24, b26, na, nc) (by (repeat (first | exact trivial | refine ⟨by rfl, ?_⟩)); done) (by repeat' (first | exact Cover.nil | exact Take.here | apply Cover.cons | apply Take.there)) trivial
            refine m_eff rfl (e_make (by rfl) (by rfl) rfl rfl (by omega) (by first | omega | (dsimp only; omega)) (by omega)) rfl (fun _ _ => ?_)
            rintro ⟨b26, rfl, rfl⟩
            refine ⟨.none (by kernel_rfl), ?_⟩
            refine m_eff rfl (e_make (by rfl) (by rfl) rfl rfl (by omega) (by first | omega | (dsimp only; omega)) (by omega)) rfl (fun _ _ => ?_)
            rintro ⟨b22, rfl, rfl⟩
            refine ⟨.none (by kernel_rfl), ?_⟩
            refine m_float0 rfl (fun _ _ => p_build (by rfl) rfl (by rfl)) rfl ?_
            refine m_eff rfl (e_box rfl (by rfl)) rfl (fun _ _ => ?_)
            rintro ⟨b28, rfl, rfl⟩
            refine ⟨.none (by kernel_rfl), ?_⟩
            refine m_float0 rfl (fun _ _ => p_assign rfl) rfl ?_
            refine m_nil ?_
            refine g_qn ?_
            exact g_joined (b28, b20, b22, b24, b26, na, nc) (by (repeat (first | exact trivial | refine ⟨by rfl, ?_⟩)); done) (by repeat' (first | exact Cover.nil | exact Take.here | apply Cover.cons | apply Take.there)) trivial
          refine m_or ?_ ?_
          · refine m_eff rfl (e_make (by rfl) (by rfl) rfl rfl (by omega) (by first | omega | (dsimp only; omega)) (by omega)) rfl (fun _ _ => ?_)
            rintro ⟨b22, rfl, rfl⟩
            refine ⟨.none (by kernel_rfl), ?_⟩
            refine m_or ?_ ?_
            · refine m_call (Hin := []) (Hr := ?hr37) (R := ?rr37) rfl wantedN rfl rfl rfl ?hin37 ?hc37 ?hk37
              case hin37 => repeat' (first | exact Cover.nil | exact Take.here | apply Cover.cons | apply Take.there)
              case hc37 => intro ρ' hρ hR; exact neigh_ok m a c E (hE.mono hρ) hlE hm ho
              rintro _ _ ⟨na, nc, rfl, rfl⟩
              refine ⟨.none (by kernel_rfl), ?_⟩
              refine m_eff rfl (e_make (by rfl) (by rfl) rfl rfl (by omega) (by first | omega | (dsimp only; omega)) (by omega)) rfl (fun _ _ => ?_)
              rintro ⟨b26, rfl, rfl⟩
              refine ⟨.none (by kernel_rfl), ?_⟩
              refine m_float0 rfl (fun _ _ => p_build (by rfl) rfl (by rfl)) rfl ?_
              refine m_eff rfl (e_box rfl (by rfl)) rfl (fun _ _ => ?_)
              rintro ⟨b28, rfl, rfl⟩
              refine ⟨.none (by kernel_rfl), ?_⟩
              refine m_float0 rfl (fun _ _ => p_assign rfl) rfl ?_
              refine m_nil ?_
              refine g_qn ?_
              exact g_joined (b28, b20, b22, b24, b26, na, nc) (by (repeat (first | exact trivial | refine ⟨by rfl, ?_⟩)); done) (by repeat' (first | exact Cover.nil | exact Take.here | apply Cover.cons | apply Take.there)) trivial
            refine m_eff rfl (e_make (by rfl) (by rfl) rfl rfl (by omega) (by first | omega | (dsimp only; omega)) (by omega)) rfl (fun _ _ => ?_)
            rintro ⟨b26, rfl, rfl⟩
            refine ⟨.none (by kernel_rfl), ?_⟩
            refine m_call (Hin := []) (Hr := ?hr38) (R := ?rr38) rfl wantedN rfl rfl rfl ?hin38 ?hc38 ?hk38
            case hin38 => repeat' (first | exact Cover.nil | exact Take.here | apply Cover.cons | apply Take.there)
            case hc38 => intro ρ' hρ hR; exact neigh_ok m a c E (hE.mono hρ) hlE hm ho
            rintro _ _ ⟨na, nc, rfl, rfl⟩
            refine ⟨.none (by kernel_rfl), ?_⟩
            refine m_float0 rfl (fun _ _ => p_build (by rfl) rfl (by rfl)) rfl ?_
            refine m_eff rfl (e_box rfl (by rfl)) rfl (fun _ _ => ?_)
            rintro ⟨b28, rfl, rfl⟩
            refine ⟨.none (by kernel_rfl), ?_⟩
            refine m_float0 rfl (fun _ _ => p_assign rfl) rfl ?_
            refine m_nil ?_
            refine g_qn ?_
            exact g_joined (b28, b20, b22, b24, b26, na, nc) (by (repeat (first | exact trivial | refine ⟨by rfl, ?_⟩)); done) (by repeat' (first | exact Cover.nil | exact Take.here | apply Cover.cons | apply Take.there)) trivial
          refine m_eff rfl (e_make (by rfl) (by rfl) rfl rfl (by omega) (by first | omega | (dsimp only; omega)) (by omega)) rfl (fun _ _ => ?_)
          rintro ⟨b26, rfl, rfl⟩
          refine ⟨.none (by kernel_rfl), ?_⟩
          refine m_or ?_ ?_
          · refine m_call (Hin := []) (Hr := ?hr39) (R := ?rr39) rfl wantedN rfl rfl rfl ?hin39 ?hc39 ?hk39
            case hin39 => repeat' (first | exact Cover.nil | exact Take.here | apply Cover.cons | apply Take.there)
            case hc39 => intro ρ' hρ hR; exact neigh_ok m a c E (hE.mono hρ) hlE hm ho
            rintro _ _ ⟨na, nc, rfl, rfl⟩
            refine ⟨.none (by kernel_rfl), ?_⟩
            refine m_eff rfl (e_make (by rfl) (by rfl) rfl rfl (by omega) (by first | omega | (dsimp only; omega)) (by omega)) rfl (fun _ _ => ?_)
            rintro ⟨b22, rfl, rfl⟩
            refine ⟨.none (by kernel_rfl), ?_⟩
            refine m_float0 rfl (fun _ _ => p_build (by rfl) rfl (by rfl)) rfl ?_
            refine m_eff rfl (e_box rfl (by rfl)) rfl (fun _ _ => ?_)
            rintro ⟨b28, rfl, rfl⟩
            refine ⟨.none (by kernel_rfl), ?_⟩
            refine m_float0 rfl (fun _ _ => p_assign rfl) rfl ?_
            refine m_nil ?_
            refine g_qn ?_
            exact g_joined (b28, b20, b22, b24, b26, na, nc) (by (repeat (first | exact trivial | refine ⟨by rfl, ?_⟩)); done) (by repeat' (first | exact Cover.nil | exact Take.here | apply Cover.cons | apply Take.there)) trivial
          refine m_eff rfl (e_make (by rfl) (by rfl) rfl rfl (by omega) (by first | omega | (dsimp only; omega)) (by omega)) rfl (fun _ _ => ?_)
          rintro ⟨b22, rfl, rfl⟩
          refine ⟨.none (by kernel_rfl), ?_⟩
          refine m_call (Hin := []) (Hr := ?hr40) (R := ?rr40) rfl wantedN rfl rfl rfl ?hin40 ?hc40 ?hk40
          case hin40 => repeat' (first | exact Cover.nil | exact Take.here | apply Cover.cons | apply Take.there)
          case hc40 => intro ρ' hρ hR; exact neigh_ok m a c E (hE.mono hρ) hlE hm ho
          rintro _ _ ⟨na, nc, rfl, rfl⟩
          refine ⟨.none (by kernel_rfl), ?_⟩
          refine m_float0 rfl (fun _ _ => p_build (by rfl) rfl (by rfl)) rfl ?_
          refine m_eff rfl (e_box rfl (by rfl)) rfl (fun _ _ => ?_)
          rintro ⟨b28, rfl, rfl⟩
          refine ⟨.none (by kernel_rfl), ?_⟩
          refine m_float0 rfl (fun _ _ => p_assign rfl) rfl ?_
          refine m_nil ?_
          refine g_qn ?_
          exact g_joined (b28, b20, b22, b24, b26, na, nc) (by (repeat (first | exact trivial | refine ⟨by rfl, ?_⟩)); done) (by repeat' (first | exact Cover.nil | exact Take.here | apply Cover.cons | apply Take.there)) trivial
        refine m_or ?_ ?_
        · refine m_eff rfl (e_make (by rfl) (by rfl) rfl rfl (by omega) (by first | omega | (dsimp only; omega)) (by omega)) rfl (fun _ _ => ?_)
          rintro ⟨b22, rfl, rfl⟩
          refine ⟨.none (by kernel_rfl), ?_⟩
          refine m_or ?_ ?_
          · refine m_call (Hin := []) (Hr := ?hr41) (R := ?rr41) rfl wantedN rfl rfl rfl ?hin41 ?hc41 ?hk41
            case hin41 => repeat' (first | exact Cover.nil | exact Take.here | apply Cover.cons | apply Take.there)
            case hc41 => intro ρ' hρ hR; exact neigh_ok m a c E (hE.mono hρ) hlE hm ho
            rintro _ _ ⟨na, nc, rfl, rfl⟩
            refine ⟨.none (by kernel_rfl), ?_⟩
            refine m_or ?_ ?_
            · refine m_eff rfl (e_make (by rfl) (by rfl) rfl rfl (by omega) (by first | omega | (dsimp only; omega)) (by omega)) rfl (fun _ _ => ?_)
              rintro ⟨b20, rfl, rfl⟩
              refine ⟨.none (by kernel_rfl), ?_⟩
              refine m_eff rfl (e_make (by rfl) (by rfl) rfl rfl (by omega) (by first | omega | (dsimp only; omega)) (by omega)) rfl (fun _ _ => ?_)
              rintro ⟨b26, rfl, rfl⟩
              refine ⟨.none (by kernel_rfl), ?_⟩
              refine m_float0 rfl (fun _ _ => p_build (by rfl) rfl (by rfl)) rfl ?_
              refine m_eff rfl (e_box rfl (by rfl)) rfl (fun _ _ => ?_)
              rintro ⟨b28, rfl, rfl⟩
              refine ⟨.none (by kernel_rfl), ?_⟩
              refine m_float0 rfl (fun _ _ => p_assign rfl) rfl ?_
              refine m_nil ?_
              refine g_qn ?_
              exact g_joined (b28, b20, b22, b24, b26, na, nc) (by (repeat (first | exact trivial | refine ⟨by rfl, ?_⟩)); done) (by repeat' (first | exact Cover.nil | exact Take.here | apply Cover.cons | apply Take.there)) trivial
            refine m_eff rfl (e_make (by rfl) (by rfl) rfl rfl (by omega) (by first | omega | (dsimp only; omega)) (by omega)) rfl (fun _ _ => ?_)
            rintro ⟨b26, rfl, rfl⟩
            refine ⟨.none (by kernel_rfl), ?_⟩
            refine m_eff rfl (e_make (by rfl) (by rfl) rfl rfl (by omega) (by first | omega | (dsimp only; omega)) (by omega)) rfl (fun _ _ => ?_)
            rintro ⟨b20, rfl, rfl⟩
            refine ⟨.none (by kernel_rfl), ?_⟩
            refine m_float0 rfl (fun _ _ => p_build (by rfl) rfl (by rfl)) rfl ?_
            refine m_eff rfl (e_box rfl (by rfl)) rfl (fun _ _ => ?_)
            rintro ⟨b28, rfl, rfl⟩
            refine ⟨.none (by kernel_rfl), ?_⟩
            refine m_float0 rfl (fun _ _ => p_assign rfl) rfl ?_
            refine m_nil ?_
            refine g_qn ?_
            exact g_joined (b28, b20, b22, b24, b26, na, nc) (by (repeat (first | exact trivial | refine ⟨by rfl, ?_⟩)); done) (by repeat' (first | exact Cover.nil | exact Take.here | apply Cover.cons | apply Take.there)) trivial
          refine m_or ?_ ?_
          · refine m_eff rfl (e_make (by rfl) (by rfl) rfl rfl (by omega) (by first | omega | (dsimp only; omega)) (by omega)) rfl (fun _ _ => ?_)
            rintro ⟨b20, rfl, rfl⟩
            refine ⟨.none (by kernel_rfl), ?_⟩
            refine m_or ?_ ?_
            · refine m_call (Hin := []) (Hr := ?hr42) (R := ?rr42) rfl wantedN rfl rfl rfl ?hin42 ?hc42 ?hk42
              case hin42 => repeat' (first | exact Cover.nil | exact Take.here | apply Cover.cons | apply Take.there)
              case hc42 => intro ρ' hρ hR; exact neigh_ok m a c E (hE.mono hρ) hlE hm ho
              rintro _ _ ⟨na, nc, rfl, rfl⟩
              refine ⟨.none (by kernel_rfl), ?_⟩
              refine m_eff rfl (e_make (by rfl) (by rfl) rfl rfl (by omega) (by first | omega | (dsimp only; omega)) (by omega)) rfl (fun _ _ => ?_)
              rintro ⟨b26, rfl, rfl⟩
              refine ⟨.none (by kernel_rfl), ?_⟩
              refine m_float0 rfl (fun _ _ => p_build (by rfl) rfl (by rfl)) rfl ?_
              refine m_eff rfl (e_box rfl (by rfl)) rfl (fun _ _ => ?_)
              rintro ⟨b28, rfl, rfl⟩
              refine ⟨.none (by kernel_rfl), ?_⟩
              refine m_float0 rfl (fun _ _ => p_assign rfl) rfl ?_
              refine m_nil ?_
              refine g_qn ?_
              exact g_joined (b28, b20, b22, b24, b26, na, nc) (by (repeat (first | exact trivial | refine ⟨by rfl, ?_⟩)); done) (by repeat' (first | exact Cover.nil | exact Take.here | apply Cover.cons | apply Take.there)) trivial
            refine m_eff rfl (e_make (by rfl) (by rfl) rfl rfl (by omega) (by first | omega | (dsimp only; omega)) (by omega)) rfl (fun _ _ => ?_)
            rintro ⟨b26, rfl, rfl⟩
            refine ⟨.none (by kernel_rfl), ?_⟩
            refine m_call (Hin := []) (Hr := ?hr43) (R := ?rr43) rfl wantedN rfl rfl rfl ?hin43 ?hc43 ?hk43
            case hin43 => repeat' (first | exact Cover.nil | exact Take.here | apply Cover.cons | apply Take.there)
            case hc43 => intro ρ' hρ hR; exact neigh_ok m a c E (hE.mono hρ) hlE hm ho
            rintro _ _ ⟨na, nc, rfl, rfl⟩
            refine ⟨.none (by kernel_rfl), ?_⟩
            refine m_float0 rfl (fun _ _ => p_build (by rfl) rfl (by rfl)) rfl ?_
            refine m_eff rfl (e_box rfl (by rfl)) rfl (fun _ _ => ?_)
            rintro ⟨b28, rfl, rfl⟩
            refine ⟨.none (by kernel_rfl), ?_⟩
            refine m_float0 rfl (fun _ _ => p_assign rfl) rfl ?_
            refine m_nil ?_
            refine g_qn ?_
            exact g_joined (b28, b20, b22, b24, b26, na, nc) (by (repeat (first | exact trivial | refine ⟨by rfl, ?_⟩)); done) (by repeat' (first | exact Cover.nil | exact Take.here | apply Cover.cons | apply Take.there)) trivial
          refine m_eff rfl (e_make (by rfl) (by rfl) rfl rfl (by omega) (by first | omega | (dsimp only; omega)) (by omega)) rfl (fun _ _ => ?_)
          rintro ⟨b26, rfl, rfl⟩
          refine ⟨.none (by kernel_rfl), ?_⟩
          refine m_or ?_ ?_
          · refine m_call (Hin := []) (Hr := ?hr44) (R := ?rr44) rfl wantedN rfl rfl rfl ?hin44 ?hc44 ?hk44
            case hin44 => repeat' (first | exact Cover.nil | exact Take.here | apply Cover.cons | apply Take.there)
            case hc44 => intro ρ' hρ hR; exact neigh_ok m a c E (hE.mono hρ) hlE hm ho
            rintro _ _ ⟨na, nc, rfl, rfl⟩
            refine ⟨.none (by kernel_rfl), ?_⟩
            refine m_eff rfl (e_make (by rfl) (by rfl) rfl rfl (by omega) (by first | omega | (dsimp only; omega)) (by omega)) rfl (fun _ _ => ?_)
            rintro ⟨b20, rfl, rfl⟩
            refine ⟨.none (by kernel_rfl), ?_⟩
            refine m_float0 rfl (fun _ _ => p_build (by rfl) rfl (by rfl)) rfl ?_
            refine m_eff rfl (e_box rfl (by rfl)) rfl (fun _ _ => ?_)
            rintro ⟨b28, rfl, rfl⟩
            refine ⟨.none (by kernel_rfl), ?_⟩
            refine m_float0 rfl (fun _ _ => p_assign rfl) rfl ?_
            refine m_nil ?_
            refine g_qn ?_
            exact g_joined (b28, b20, b22, b24, b26, na, nc) (by (repeat (first | exact trivial | refine ⟨by rfl, ?_⟩)); done) (by repeat' (first | exact Cover.nil | exact Take.here | apply Cover.cons | apply Take.there)) trivial
          refine m_eff rfl (e_make (by rfl) (by rfl) rfl rfl (by omega) (by first | omega | (dsimp only; omega)) (by omega)) rfl (fun _ _ => ?_)
          rintro ⟨b20, rfl, rfl⟩
          refine ⟨.none (by kernel_rfl), ?_⟩
          refine m_call (Hin := []) (Hr := ?hr45) (R := ?rr45) rfl wantedN rfl rfl rfl ?hin45 ?hc45 ?hk45
          case hin45 => repeat' (first | exact Cover.nil | exact Take.here | apply Cover.cons | apply Take.there)
          case hc45 => intro ρ' hρ hR; exact neigh_ok m a c E (hE.mono hρ) hlE hm ho
          rintro _ _ ⟨na, nc, rfl, rfl⟩
          refine ⟨.none (by kernel_rfl), ?_⟩
          refine m_float0 rfl (fun _ _ => p_build (by rfl) rfl (by rfl)) rfl ?_
          refine m_eff rfl (e_box rfl (by rfl)) rfl (fun _ _ => ?_)
          rintro ⟨b28, rfl, rfl⟩
          refine ⟨.none (by kernel_rfl), ?_⟩
          refine m_float0 rfl (fun _ _ => p_assign rfl) rfl ?_
          refine m_nil ?_
          refine g_qn ?_
          exact g_joined (b28, b20, b22, b24, b26, na, nc) (by (repeat (first | exact trivial | refine ⟨by rfl, ?_⟩)); done) (by repeat' (first | exact Cover.nil | exact Take.here | apply Cover.cons | apply Take.there)) trivial
        refine m_eff rfl (e_make (by rfl) (by rfl) rfl rfl (by omega) (by first | omega | (dsimp only; omega)) (by omega)) rfl (fun _ _ => ?_)
        rintro ⟨b26, rfl, rfl⟩
        refine ⟨.none (by kernel_rfl), ?_⟩
        refine m_or ?_ ?_
        · refine m_call (Hin := []) (Hr := ?hr46) (R := ?rr46) rfl wantedN rfl rfl rfl ?hin46 ?hc46 ?hk46
          case hin46 => repeat' (first | exact Cover.nil | exact Take.here | apply Cover.cons | apply Take.there)
          case hc46 => intro ρ' hρ hR; exact neigh_ok m a c E (hE.mono hρ) hlE hm ho
          rintro _ _ ⟨na, nc, rfl, rfl⟩
          refine ⟨.none (by kernel_rfl), ?_⟩
          refine m_or ?_ ?_
          · refine m_eff rfl (e_make (by rfl) (by rfl) rfl rfl (by omega) (by first | omega | (dsimp only; omega)) (by omega)) rfl (fun _ _ => ?_)
            rintro ⟨b20, rfl, rfl⟩
            refine ⟨.none (by kernel_rfl), ?_⟩
            refine m_eff rfl (e_make (by rfl) (by rfl) rfl rfl (by omega) (by first | omega | (dsimp only; omega)) (by omega)) rfl (fun _ _ => ?_)
            rintro ⟨b22, rfl, rfl⟩
            refine ⟨.none (by kernel_rfl), ?_⟩
            refine m_float0 rfl (fun _ _ => p_build (by rfl) rfl (by rfl)) rfl ?_
            refine m_eff rfl (e_box rfl (by rfl)) rfl (fun _ _ => ?_)
            rintro ⟨b28, rfl, rfl⟩
            refine ⟨.none (by kernel_rfl), ?_⟩
            refine m_float0 rfl (fun _ _ => p_assign rfl) rfl ?_
            refine m_nil ?_
            refine g_qn ?_
            exact g_joined (b28, b20, b22, b24, b26, na, nc) (by (repeat (first | exact trivial | refine ⟨by rfl, ?_⟩)); done) (by repeat' (first | exact Cover.nil | exact Take.here | apply Cover.cons | apply Take.there)) trivial
          refine m_eff rfl (e_make (by rfl) (by rfl) rfl rfl (by omega) (by first | omega | (dsimp only; omega)) (by omega)) rfl (fun _ _ => ?_)
          rintro ⟨b22, rfl, rfl⟩
          refine ⟨.none (by kernel_rfl), ?_⟩
          refine m_eff rfl (e_make (by rfl) (by rfl) rfl rfl (by omega) (by first | omega | (dsimp only; omega)) (by omega)) rfl (fun _ _ => ?_)
          rintro ⟨b20, rfl, rfl⟩
          refine ⟨.none (by kernel_rfl), ?_⟩
          refine m_float0 rfl (fun _ _ => p_build (by rfl) rfl (by rfl)) rfl ?_
          refine m_eff rfl (e_box rfl (by rfl)) rfl (fun _ _ => ?_)
          rintro ⟨b28, rfl, rfl⟩
          refine ⟨.none (by kernel_rfl), ?_⟩
          refine m_float0 rfl (fun _ _ => p_assign rfl) rfl ?_
          refine m_nil ?_
          refine g_qn ?_
          exact g_joined (b28, b20, b22, b24, b26, na, nc) (by (repeat (first | exact trivial | refine ⟨by rfl, ?_⟩)); done) (by repeat' (first | exact Cover.nil | exact Take.here | apply Cover.cons | apply Take.there)) trivial
        refine m_or ?_ ?_
        · refine m_eff rfl (e_make (by rfl) (by rfl) rfl rfl (by omega) (by first | omega | (dsimp only; omega)) (by omega)) rfl (fun _ _ => ?_)
          rintro ⟨b20, rfl, rfl⟩
          refine ⟨.none (by kernel_rfl), ?_⟩
          refine m_or ?_ ?_
          · refine m_call (Hin := []) (Hr := ?hr47) (R := ?rr47) rfl wantedN rfl rfl rfl ?hin47 ?hc47 ?hk47
            case hin47 => repeat' (first | exact Cover.nil | exact Take.here | apply Cover.cons | apply Take.there)
            case hc47 => intro ρ' hρ hR; exact neigh_ok m a c E (hE.mono hρ) hlE hm ho
            rintro _ _ ⟨na, nc, rfl, rfl⟩
            refine ⟨.none (by kernel_rfl), ?_⟩
            refine m_eff rfl (e_make (by rfl) (by rfl) rfl rfl (by omega) (by first | omega | (dsimp only; omega)) (by omega)) rfl (fun _ _ => ?_)
            rintro ⟨b22, rfl, rfl⟩
            refine ⟨.none (by kernel_rfl), ?_⟩
            refine m_float0 rfl (fun _ _ => p_build (by rfl) rfl (by rfl)) rfl ?_
            refine m_eff rfl (e_box rfl (by rfl)) rfl (fun _ _ => ?_)
            rintro ⟨b28, rfl, rfl⟩
            refine ⟨.none (by kernel_rfl), ?_⟩
            refine m_float0 rfl (fun _ _ => p_assign rfl) rfl ?_
            refine m_nil ?_
            refine g_qn ?_
            exact g_joined (b28, b20, b22, b24, b26, na, nc) (by (repeat (first | exact trivial | refine ⟨by rfl, ?_⟩)); done) (by repeat' (first | exact Cover.nil | exact Take.here | apply Cover.cons | apply Take.there)) trivial
          refine m_eff rfl (e_make (by rfl) (by rfl) rfl rfl (by omega) (by first | omega | (dsimp only; omega)) (by omega)) rfl (fun _ _ => ?_)
          rintro ⟨b22, rfl, rfl⟩
          refine ⟨.none (by kernel_rfl), ?_⟩
          refine m_call (Hin := []) (Hr := ?hr48) (R := ?rr48) rfl wantedN rfl rfl rfl ?hin48 ?hc48 ?hk48
          case hin48 => repeat' (first | exact Cover.nil | exact Take.here | apply Cover.cons | apply Take.there)
          case hc48 => intro ρ' hρ hR; exact neigh_ok m a c E (hE.mono hρ) hlE hm ho
          rintro _ _ ⟨na, nc, rfl, rfl⟩
          refine ⟨.none (by kernel_rfl), ?_⟩
          refine m_float0 rfl (fun _ _ => p_build (by rfl) rfl (by rfl)) rfl ?_
          refine m_eff rfl (e_box rfl (by rfl)) rfl (fun _ _ => ?_)
          rintro ⟨b28, rfl, rfl⟩
          refine ⟨.none (by kernel_rfl), ?_⟩
          refine m_float0 rfl (fun _ _ => p_assign rfl) rfl ?_
          refine m_nil ?_
          refine g_qn ?_
          exact g_joined (b28, b20, b22, b24, b26, na, nc) (by (repeat (first | exact trivial | refine ⟨by rfl, ?_⟩)); done) (by repeat' (first | exact Cover.nil | exact Take.here | apply Cover.cons | apply Take.there)) trivial
        refine m_eff rfl (e_make (by rfl) (by rfl) rfl rfl (by omega) (by first | omega | (dsimp only; omega)) (by omega)) rfl (fun _ _ => ?_)
        rintro ⟨b22, rfl, rfl⟩
        refine ⟨.none (by kernel_rfl), ?_⟩
        refine m_or ?_ ?_
        · refine m_call (Hin := []) (Hr := ?hr49) (R := ?rr49) rfl wantedN rfl rfl rfl ?hin49 ?hc49 ?hk49
          case hin49 => repeat' (first | exact Cover.nil | exact Take.here | apply Cover.cons | apply Take.there)
          case hc49 => intro ρ' hρ hR; exact neigh_ok m a c E (hE.mono hρ) hlE hm ho
          rintro _ _ ⟨na, nc, rfl, rfl⟩
          refine ⟨.none (by kernel_rfl), ?_⟩
          refine m_eff rfl (e_make (by rfl) (by rfl) rfl rfl (by omega) (by first | omega | (dsimp only; omega)) (by omega)) rfl (fun _ _ => ?_)
          rintro ⟨b20, rfl, rfl⟩
          refine ⟨.none (by kernel_rfl), ?_⟩
          refine m_float0 rfl (fun _ _ => p_build (by rfl) rfl (by rfl)) rfl ?_
          refine m_eff rfl (e_box rfl (by rfl)) rfl (fun _ _ => ?_)
          rintro ⟨b28, rfl, rfl⟩
          refine ⟨.none (by kernel_rfl), ?_⟩
          refine m_float0 rfl (fun _ _ => p_assign rfl) rfl ?_
          refine m_nil ?_
          refine g_qn ?_
          exact g_joined (b28, b20, b22, b24, b26, na, nc) (by (repeat (first | exact trivial | refine ⟨by rfl, ?_⟩)); done) (by repeat' (first | exact Cover.nil | exact Take.here | apply Cover.cons | apply Take.there)) trivial
        refine m_eff rfl (e_make (by rfl) (by rfl) rfl rfl (by omega) (by first | omega | (dsimp only; omega)) (by omega)) rfl (fun _ _ => ?_)
        rintro ⟨b20, rfl, rfl⟩
        refine ⟨.none (by kernel_rfl), ?_⟩
        refine m_call (Hin := []) (Hr := ?hr50) (R := ?rr50) rfl wantedN rfl rfl rfl ?hin50 ?hc50 ?hk50
        case hin50 => repeat' (first | exact Cover.nil | exact Take.here | apply Cover.cons | apply Take.there)
        case hc50 => intro ρ' hρ hR; exact neigh_ok m a c E (hE.mono hρ) hlE hm ho
        rintro _ _ ⟨na, nc, rfl, rfl⟩
        refine ⟨.none (by kernel_rfl), ?_⟩
        refine m_float0 rfl (fun _ _ => p_build (by rfl) rfl (by rfl)) rfl ?_
        refine m_eff rfl (e_box rfl (by rfl)) rfl (fun _ _ => ?_)
        rintro ⟨b28, rfl, rfl⟩
        refine ⟨.none (by kernel_rfl), ?_⟩
        refine m_float0 rfl (fun _ _ => p_assign rfl) rfl ?_
        refine m_nil ?_
        refine g_qn ?_
        exact g_joined (b28, b20, b22, b24, b26, na, nc) (by (repeat (first | exact trivial | refine ⟨by rfl, ?_⟩)); done) (by repeat' (first | exact Cover.nil | exact Take.here | apply Cover.cons | apply Take.there)) trivial
      refine m_eff rfl (e_make (by rfl) (by rfl) rfl rfl (by omega) (by first | omega | (dsimp only; omega)) (by omega)) rfl (fun _ _ => ?_)
      rintro ⟨b26, rfl, rfl⟩
      refine ⟨.none (by kernel_rfl), ?_⟩
      refine m_or ?_ ?_
      · refine m_call (Hin := []) (Hr := ?hr51) (R := ?rr51) rfl wantedN rfl rfl rfl ?hin51 ?hc51 ?hk51
        case hin51 => repeat' (first | exact Cover.nil | exact Take.here | apply Cover.cons | apply Take.there)
        case hc51 => intro ρ' hρ hR; exact neigh_ok m a c E (hE.mono hρ) hlE hm ho
        rintro _ _ ⟨na, nc, rfl, rfl⟩
        refine ⟨.none (by kernel_rfl), ?_⟩
        refine m_or ?_ ?_
        · refine m_eff rfl (e_make (by rfl) (by rfl) rfl rfl (by omega) (by first | omega | (dsimp only; omega)) (by omega)) rfl (fun _ _ => ?_)
          rintro ⟨b20, rfl, rfl⟩
          refine ⟨.none (by kernel_rfl), ?_⟩
          refine m_or ?_ ?_
          · refine m_eff rfl (e_make (by rfl) (by rfl) rfl rfl (by omega) (by first | omega | (dsimp only; omega)) (by omega)) rfl (fun _ _ => ?_)
            rintro ⟨b22, rfl, rfl⟩
            refine ⟨.none (by kernel_rfl), ?_⟩
            refine m_eff rfl (e_make (by rfl) (by rfl) rfl rfl (by omega) (by first | omega | (dsimp only; omega)) (by omega)) rfl (fun _ _ => ?_)
            rintro ⟨b24, rfl, rfl⟩
            refine ⟨.none (by kernel_rfl), ?_⟩
            refine m_float0 rfl (fun _ _ => p_build (by rfl) rfl (by rfl)) rfl ?_
            refine m_eff rfl (e_box rfl (by rfl)) rfl (fun _ _ => ?_)
            rintro ⟨b28, rfl, rfl⟩
            refine ⟨.none (by kernel_rfl), ?_⟩
            refine m_float0 rfl (fun _ _ => p_assign rfl) rfl ?_
            refine m_nil ?_
            refine g_qn ?_
            exact g_joined (b28, b20, b22, b24, b26, na, nc) (by (repeat (first | exact trivial | refine ⟨by rfl, ?_⟩)); done) (by repeat' (first | exact Cover.nil | exact Take.here | apply Cover.cons | apply Take.there)) trivial
          refine m_eff rfl (e_make (by rfl) (by rfl) rfl rfl (by omega) (by first | omega | (dsimp only; omega)) (by omega)) rfl (fun _ _ => ?_)
          rintro ⟨b24, rfl, rfl⟩
          refine ⟨.none (by kernel_rfl), ?_⟩
          refine m_eff rfl (e_make (by rfl) (by rfl) rfl rfl (by omega) (by first | omega | (dsimp only; omega)) (by omega)) rfl (fun _ _ => ?_)
          rintro ⟨b22, rfl, rfl⟩
          refine ⟨.none (by kernel_rfl), ?_⟩
          refine m_float0 rfl (fun _ _ => p_build (by rfl) rfl (by rfl)) rfl ?_
          refine m_eff rfl (e_box rfl (by rfl)) rfl (fun _ _ => ?_)
          rintro ⟨b28, rfl, rfl⟩
          refine ⟨.none (by kernel_rfl), ?_⟩
          refine m_float0 rfl (fun _ _ => p_assign rfl) rfl ?_
          refine m_nil ?_
          refine g_qn ?_
          exact g_joined (b28, b20, b22, b24, b26, na, nc) (by (repeat (first | exact trivial | refine ⟨by rfl, ?_⟩)); done) (by repeat' (first | exact Cover.nil | exact Take.here | apply Cover.cons | apply Take.there)) trivial
        refine m_or ?_ ?_
        · refine m_eff rfl (e_make (by rfl) (by rfl) rfl rfl (by omega) (by first | omega | (dsimp only; omega)) (by omega)) rfl (fun _ _ => ?_)
          rintro ⟨b22, rfl, rfl⟩
          refine ⟨.none (by kernel_rfl), ?_⟩
          refine m_or ?_ ?_
          · refine m_eff rfl (e_make (by rfl) (by rfl) rfl rfl (by omega) (by first | omega | (dsimp only; omega)) (by omega)) rfl (fun _ _ => ?_)
            rintro ⟨b20, rfl, rfl⟩
            refine ⟨.none (by kernel_rfl), ?_⟩
            refine m_eff rfl (e_make (by rfl) (by rfl) rfl rfl (by omega) (by first | omega | (dsimp only; omega)) (by omega)) rfl (fun _ _ => ?_)
            rintro ⟨b24, rfl, rfl⟩
            refine ⟨.none (by kernel_rfl), ?_⟩
            refine m_float0 rfl (fun _ _ => p_build (by rfl) rfl (by rfl)) rfl ?_
            refine m_eff rfl (e_box rfl (by rfl)) rfl (fun _ _ => ?_)
            rintro ⟨b28, rfl, rfl⟩
            refine ⟨.none (by kernel_rfl), ?_⟩
            refine m_float0 rfl (fun _ _ => p_assign rfl) rfl ?_
            refine m_nil ?_
            refine g_qn ?_
            exact g_joined (b28, b20, b22, b24, b26, na, nc) (by (repeat (first | exact trivial | refine ⟨by rfl, ?_⟩)); done) (by repeat' (first | exact Cover.nil | exact Take.here | apply Cover.cons | apply Take.there)) trivial
          refine m_eff rfl (e_make (by rfl) (by rfl) rfl rfl (by omega) (by first | omega | (dsimp only; omega)) (by omega)) rfl (fun _ _ => ?_)
          rintro ⟨b24, rfl, rfl⟩
          refine ⟨.none (by kernel_rfl), ?_⟩
          refine m_eff rfl (e_make (by rfl) (by rfl) rfl rfl (by omega) (by first | omega | (dsimp only; omega)) (by omega)) rfl (fun _ _ => ?_)
          rintro ⟨b20, rfl, rfl⟩
          refine ⟨.none (by kernel_rfl), ?_⟩
          refine m_float0 rfl (fun _ _ => p_build (by rfl) rfl (by rfl)) rfl ?_
          refine m_eff rfl (e_box rfl (by rfl)) rfl (fun _ _ => ?_)
          rintro ⟨b28, rfl, rfl⟩
          refine ⟨.none (by kernel_rfl), ?_⟩
          refine m_float0 rfl (fun _ _ => p_assign rfl) rfl ?_
          refine m_nil ?_
          refine g_qn ?_
          exact g_joined (b28, b20, b22, b24, b26, na, nc) (by (repeat (first | exact trivial | refine ⟨by rfl, ?_⟩)); done) (by repeat' (first | exact Cover.nil | exact Take.here | apply Cover.cons | apply Take.there)) trivial
        refine m_eff rfl (e_make (by rfl) (by rfl) rfl rfl (by omega) (by first | omega | (dsimp only; omega)) (by omega)) rfl (fun _ _ => ?_)
        rintro ⟨b24, rfl, rfl⟩
        refine ⟨.none (by kernel_rfl), ?_⟩
        refine m_or ?_ ?_
        · refine m_eff rfl (e_make (by rfl) (by rfl) rfl rfl (by omega) (by first | omega | (dsimp only; omega)) (by omega)) rfl (fun _ _ => ?_)
          rintro ⟨b20, rfl, rfl⟩
          refine ⟨.none (by kernel_rfl), ?_⟩
          refine m_eff rfl (e_make (by rfl) (by rfl) rfl rfl (by omega) (by first | omega | (dsimp only; omega)) (by omega)) rfl (fun _ _ => ?_)
          rintro ⟨b22, rfl, rfl⟩
          refine ⟨.none (by kernel_rfl), ?_⟩
          refine m_float0 rfl (fun _ _ => p_build (by rfl) rfl (by rfl)) rfl ?_
          refine m_eff rfl (e_box rfl (by rfl)) rfl (fun _ _ => ?_)
          rintro ⟨b28, rfl, rfl⟩
          refine ⟨.none (by kernel_rfl), ?_⟩
          refine m_float0 rfl (fun _ _ => p_assign rfl) rfl ?_
          refine m_nil ?_
          refine g_qn ?_
          exact g_joined (b28, b20, b22, b24, b26, na, nc) (by (repeat (first | exact trivial | refine ⟨by rfl, ?_⟩)); done) (by repeat' (first | exact Cover.nil | exact Take.here | apply Cover.cons | apply Take.there)) trivial
        refine m_eff rfl (e_make (by rfl) (by rfl) rfl rfl (by omega) (by first | omega | (dsimp only; omega)) (by omega)) rfl (fun _ _ => ?_)
        rintro ⟨b22, rfl, rfl⟩
        refine ⟨.none (by kernel_rfl), ?_⟩
        refine m_eff rfl (e_make (by rfl) (by rfl) rfl rfl (by omega) (by first | omega | (dsimp only; omega)) (by omega)) rfl (fun _ _ => ?_)
        rintro ⟨b20, rfl, rfl⟩
        refine ⟨.none (by kernel_rfl), ?_⟩
        refine m_float0 rfl (fun _ _ => p_build (by rfl) rfl (by rfl)) rfl ?_
        refine m_eff rfl (e_box rfl (by rfl)) rfl (fun _ _ => ?_)
        rintro ⟨b28, rfl, rfl⟩
        refine ⟨.none (by kernel_rfl), ?_⟩
        refine m_float0 rfl (fun _ _ => p_assign rfl) rfl ?_
        refine m_nil ?_
        refine g_qn ?_
        exact g_joined (b28, b20, b22, b24, b26, na, nc) (by (repeat (first | exact trivial | refine ⟨by rfl, ?_⟩)); done) (by repeat' (first | exact Cover.nil | exact Take.here | apply Cover.cons | apply Take.there)) trivial
      refine m_or ?_ ?_
      · refine m_eff rfl (e_make (by rfl) (by rfl) rfl rfl (by omega) (by first | omega | (dsimp only; omega)) (by omega)) rfl (fun _ _ => ?_)
        rintro ⟨b20, rfl, rfl⟩
        refine ⟨.none (by kernel_rfl), ?_⟩
        refine m_or ?_ ?_
        · refine m_call (Hin := []) (Hr := ?hr52) (R := ?rr52) rfl wantedN rfl rfl rfl ?hin52 ?hc52 ?hk52
          case hin52 => repeat' (first | exact Cover.nil | exact Take.here | apply Cover.cons | apply Take.there)
          case hc52 => intro ρ' hρ hR; exact neigh_ok m a c E (hE.mono hρ) hlE hm ho
          rintro _ _ ⟨na, nc, rfl, rfl⟩
          refine ⟨.none (by kernel_rfl), ?_⟩
          refine m_or ?_ ?_
          · refine m_eff rfl (e_make (by rfl) (by rfl) rfl rfl (by omega) (by first | omega | (dsimp only; omega)) (by omega)) rfl (fun _ _ => ?_)
            rintro ⟨b22, rfl, rfl⟩
            refine ⟨.none (by kernel_rfl), ?_⟩
            refine m_eff rfl (e_make (by rfl) (by rfl) rfl rfl (by omega) (by first | omega | (dsimp only; omega)) (by omega)) rfl (fun _ _ => ?_)
            rintro ⟨b24, rfl, rfl⟩
            refine ⟨.none (by kernel_rfl), ?_⟩
            refine m_float0 rfl (fun _ _ => p_build (by rfl) rfl (by rfl)) rfl ?_
            refine m_eff rfl (e_box rfl (by rfl)) rfl (fun _ _ => ?_)
            rintro ⟨b28, rfl, rfl⟩
            refine ⟨.none (by kernel_rfl), ?_⟩
            refine m_float0 rfl (fun _ _ => p_assign rfl) rfl ?_
            refine m_nil ?_
            refine g_qn ?_
            exact g_joined (b28, b20, b22, b24, b26, na, nc) (by (repeat (first | exact trivial | refine ⟨by rfl, ?_⟩)); done) (by repeat' (first | exact Cover.nil | exact Take.here | apply Cover.cons | apply Take.there)) trivial
          refine m_eff rfl (e_make (by rfl) (by rfl) rfl rfl (by omega) (by first | omega | (dsimp only; omega)) (by omega)) rfl (fun _ _ => ?_)
          rintro ⟨b24, rfl, rfl⟩
          refine ⟨.none (by kernel_rfl), ?_⟩
          refine m_eff rfl (e_make (by rfl) (by rfl) rfl rfl (by omega) (by first | omega | (dsimp only; omega)) (by omega)) rfl (fun _ _ => ?_)
          rintro ⟨b22, rfl, rfl⟩
          refine ⟨.none (by kernel_rfl), ?_⟩
          refine m_float0 rfl (fun _ _ => p_build (by rfl) rfl (by rfl)) rfl ?_
          refine m_eff rfl (e_box rfl (by rfl)) rfl (fun _ _ => ?_)
          rintro ⟨b28, rfl, rfl⟩
          refine ⟨.none (by kernel_rfl), ?_⟩
          refine m_float0 rfl (fun _ _ => p_assign rfl) rfl ?_
          refine m_nil ?_
          refine g_qn ?_
          exact g_joined (b28, b20, b22, b24, b26, na, nc) (by (repeat (first | exact trivial | refine ⟨by rfl, ?_⟩)); done) (by repeat' (first | exact Cover.nil | exact Take.here | apply Cover.cons | apply Take.there)) trivial
        refine m_or ?_ ?_
        · refine m_eff rfl (e_make (by rfl) (by rfl) rfl rfl (by omega) (by first | omega | (dsimp only; omega)) (by omega)) rfl (fun _ _ => ?_)
          rintro ⟨b22, rfl, rfl⟩
          refine ⟨.none (by kernel_rfl), ?_⟩
          refine m_or ?_ ?_
          · refine m_call (Hin := []) (Hr := ?hr53) (R := ?rr53) rfl wantedN rfl rfl rfl ?hin53 ?hc53 ?hk53
            case hin53 => repeat' (first | exact Cover.nil | exact Take.here | apply Cover.cons | apply Take.there)
            case hc53 => intro ρ' hρ hR; exact neigh_ok m a c E (hE.mono hρ) hlE hm ho
            rintro _ _ ⟨na, nc, rfl, rfl⟩
            refine ⟨.none (by kernel_rfl), ?_⟩
            refine m_eff rfl (e_make (by rfl) (by rfl) rfl rfl (by omega) (by first | omega | (dsimp only; omega)) (by omega)) rfl (fun _ _ => ?_)
            rintro ⟨b24, rfl, rfl⟩
            refine ⟨.none (by kernel_rfl), ?_⟩
            refine m_float0 rfl (fun _ _ => p_build (by rfl) rfl (by rfl)) rfl ?_
            refine m_eff rfl (e_box rfl (by rfl)) rfl (fun _ _ => ?_)
            rintro ⟨b28, rfl, rfl⟩
            refine ⟨.none (by kernel_rfl), ?_⟩
            refine m_float0 rfl (fun _ _ => p_assign rfl) rfl ?_
            refine m_nil ?_
            refine g_qn ?_
            exact g_joined (b28, b20, b22, b24, b26, na, nc) (by (repeat (first | exact trivial | refine ⟨by rfl, ?_⟩)); done) (by repeat' (first | exact Cover.nil | exact Take.here | apply Cover.cons | apply Take.there)) trivial
          refine m_eff rfl (e_make (by rfl) (by rfl) rfl rfl (by omega) (by first | omega | (dsimp only; omega)) (by omega)) rfl (fun _ _ => ?_)
          rintro ⟨b24, rfl, rfl⟩
          refine ⟨.none (by kernel_rfl), ?_⟩
          refine m_call (Hin := []) (Hr := ?hr54) (R := ?rr54) rfl wantedN rfl rfl rfl ?hin54 ?hc54 ?hk54
          case hin54 => repeat' (first | exact Cover.nil | exact Take.here | apply Cover.cons | apply Take.there)
          case hc54 => intro ρ' hρ hR; exact neigh_ok m a c E (hE.mono hρ) hlE hm ho
          rintro _ _ ⟨na, nc, rfl, rfl⟩
          refine ⟨.none (by kernel_rfl), ?_⟩
          refine m_float0 rfl (fun _ _ => p_build (by rfl) rfl (by rfl)) rfl ?_
          refine m_eff rfl (e_box rfl (by rfl)) rfl (fun _ _ => ?_)
          rintro ⟨b28, rfl, rfl⟩
          refine ⟨.none (by kernel_rfl), ?_⟩
          refine m_float0 rfl (fun _ _ => p_assign rfl) rfl ?_
          refine m_nil ?_
          refine g_qn ?_
          exact g_joined (b28, b20, b22, b24, b26, na, nc) (by (repeat (first | exact trivial | refine ⟨by rfl, ?_⟩)); done) (by repeat' (first | exact Cover.nil | exact Take.here | apply Cover.cons | apply Take.there)) trivial
        refine m_eff rfl (e_make (by rfl) (by rfl) rfl rfl (by omega) (by first | omega | (dsimp only; omega)) (by omega)) rfl (fun _ _ => ?_)
        rintro ⟨b24, rfl, rfl⟩
        refine ⟨.none (by kernel_rfl), ?_⟩
        refine m_or ?_ ?_
        · refine m_call (Hin := []) (Hr := ?hr55) (R := ?rr55) rfl wantedN rfl rfl rfl ?hin55 ?hc55 ?hk55
          case hin55 => repeat' (first | exact Cover.nil | exact Take.here | apply Cover.cons | apply Take.there)
          case hc55 => intro ρ' hρ hR; exact neigh_ok m a c E (hE.mono hρ) hlE hm ho
          rintro _ _ ⟨na, nc, rfl, rfl⟩
          refine ⟨.none (by kernel_rfl), ?_⟩
          refine m_eff rfl (e_make (by rfl) (by rfl) rfl rfl (by omega) (by first | omega | (dsimp only; omega)) (by omega)) rfl (fun _ _ => ?_)
          rintro ⟨b22, rfl, rfl⟩
          refine ⟨.none (by kernel_rfl), ?_⟩
          refine m_float0 rfl (fun _ _ => p_build (by rfl) rfl (by rfl)) rfl ?_
          refine m_eff rfl (e_box rfl (by rfl)) rfl (fun _ _ => ?_)
          rintro ⟨b28, rfl, rfl⟩
          refine ⟨.none (by kernel_rfl), ?_⟩
          refine m_float0 rfl (fun _ _ => p_assign rfl) rfl ?_
          refine m_nil ?_
          refine g_qn ?_
          exact g_joined (b28, b20, b22, b24, b26, na, nc) (by (repeat (first | exact trivial | refine ⟨by rfl, ?_⟩)); done) (by repeat' (first | exact Cover.nil | exact Take.here | apply Cover.cons | apply Take.there)) trivial
        refine m_eff rfl (e_make (by rfl) (by rfl) rfl rfl (by omega) (by first | omega | (dsimp only; omega)) (by omega)) rfl (fun _ _ => ?_)
        rintro ⟨b22, rfl, rfl⟩
        refine ⟨.none (by kernel_rfl), ?_⟩
        refine m_call (Hin := []) (Hr := ?hr56) (R := ?rr56) rfl wantedN rfl rfl rfl ?hin56 ?hc56 ?hk56
        case hin56 => repeat' (first | exact Cover.nil | exact Take.here | apply Cover.cons | apply Take.there)
        case hc56 => intro ρ' hρ hR; exact neigh_ok m a c E (hE.mono hρ) hlE hm ho
        rintro _ _ ⟨na, nc, rfl, rfl⟩
        refine ⟨.none (by kernel_rfl), ?_⟩
        refine m_float0 rfl (fun _ _ => p_build (by rfl) rfl (by rfl)) rfl ?_
        refine m_eff rfl (e_box rfl (by rfl)) rfl (fun _ _ => ?_)
        rintro ⟨b28, rfl, rfl⟩
        refine ⟨.none (by kernel_rfl), ?_⟩
        refine m_float0 rfl (fun _ _ => p_assign rfl) rfl ?_
        refine m_nil ?_
        refine g_qn ?_
        exact g_joined (b28, b20, b22, b24, b26, na, nc) (by (repeat (first | exact trivial | refine ⟨by rfl, ?_⟩)); done) (by repeat' (first | exact Cover.nil | exact Take.here | apply Cover.cons | apply Take.there)) trivial
      refine m_or ?_ ?_
      · refine m_eff rfl (e_make (by rfl) (by rfl) rfl rfl (by omega) (by first | omega | (dsimp only; omega)) (by omega)) rfl (fun _ _ => ?_)
        rintro ⟨b22, rfl, rfl⟩
        refine ⟨.none (by kernel_rfl), ?_⟩
        refine m_or ?_ ?_
        · refine m_call (Hin := []) (Hr := ?hr57) (R := ?rr57) rfl wantedN rfl rfl rfl ?hin57 ?hc57 ?hk57
          case hin57 => repeat' (first | exact Cover.nil | exact Take.here | apply Cover.cons | apply Take.there)
          case hc57 => intro ρ' hρ hR; exact neigh_ok m a c E (hE.mono hρ) hlE hm ho
          rintro _ _ ⟨na, nc, rfl, rfl⟩
          refine ⟨.none (by kernel_rfl), ?_⟩
          refine m_or ?_ ?_
          · refine m_eff rfl (e_make (by rfl) (by rfl) rfl rfl (by omega) (by first | omega | (dsimp only; omega)) (by omega)) rfl (fun _ _ => ?_)
            rintro ⟨b20, rfl, rfl⟩
            refine ⟨.none (by kernel_rfl), ?_⟩
            refine m_eff rfl (e_make (by rfl) (by rfl) rfl rfl (by omega) (by first | omega | (dsimp only; omega)) (by omega)) rfl (fun _ _ => ?_)
            rintro ⟨b24, rfl, rfl⟩
            refine ⟨.none (by kernel_rfl), ?_⟩
            refine m_float0 rfl (fun _ _ => p_build (by rfl) rfl (by rfl)) rfl ?_
            refine m_eff rfl (e_box rfl (by rfl)) rfl (fun _ _ => ?_)
            rintro ⟨b28, rfl, rfl⟩
            refine ⟨.none (by kernel_rfl), ?_⟩
            refine m_float0 rfl (fun _ _ => p_assign rfl) rfl ?_
            refine m_nil ?_
            refine g_qn ?_
            exact g_joined (b28, b20, b22, b24, b26, na, nc) (by (repeat (first | exact trivial | refine ⟨by rfl, ?_⟩)); done) (by repeat' (first | exact Cover.nil | exact Take.here | apply Cover.cons | apply Take.there)) trivial
          refine m_eff rfl (e_make (by rfl) (by rfl) rfl rfl (by omega) (by first | omega | (dsimp only; omega)) (by omega)) rfl (fun _ _ => ?_)
          rintro ⟨b24, rfl, rfl⟩
          refine ⟨.none (by kernel_rfl), ?_⟩
          refine m_eff rfl (e_make (by rfl) (by rfl) rfl rfl (by omega) (by first | omega | (dsimp only; omega)) (by omega)) rfl (fun _ _ => ?_)
          rintro ⟨b20, rfl, rfl⟩
          refine ⟨.none (by kernel_rfl), ?_⟩
          refine m_float0 rfl (fun _ _ => p_build (by rfl) rfl (by rfl)) rfl ?_
          refine m_eff rfl (e_box rfl (by rfl)) rfl (fun _ _ => ?_)
          rintro ⟨b28, rfl, rfl⟩
          refine ⟨.none (by kernel_rfl), ?_⟩
          refine m_float0 rfl (fun _ _ => p_assign rfl) rfl ?_
          refine m_nil ?_
          refine g_qn ?_
          exact g_joined (b28, b20, b22, b24, b26, na, nc) (by (repeat (first | exact trivial | refine ⟨by rfl, ?_⟩)); done) (by repeat' (first | exact Cover.nil | exact Take.here | apply Cover.cons | apply Take.there)) trivial
        refine m_or ?_ ?_
        · refine m_eff rfl (e_make (by rfl) (by rfl) rfl rfl (by omega) (by first | omega | (dsimp only; omega)) (by omega)) rfl (fun _ _ => ?_)
          rintro ⟨b20, rfl, rfl⟩
          refine ⟨.none (by kernel_rfl), ?_⟩
          refine m_or ?_ ?_
          · refine m_call (Hin := []) (Hr := ?hr58) (R := ?rr58) rfl wantedN rfl rfl rfl ?hin58 ?hc58 ?hk58
            case hin58 => repeat' (first | exact Cover.nil | exact Take.here | apply Cover.cons | apply Take.there)
            case hc58 => intro ρ' hρ hR; exact neigh_ok m a c E (hE.mono hρ) hlE hm ho
            rintro _ _ ⟨na, nc, rfl, rfl⟩
            refine ⟨.none (by kernel_rfl), ?_⟩
            refine m_eff rfl (e_make (by rfl) (by rfl) rfl rfl (by omega) (by first | omega | (dsimp only; omega)) (by omega)) rfl (fun _ _ => ?_)
            rintro ⟨b24, rfl, rfl⟩
            refine ⟨.none (by kernel_rfl), ?_⟩
            refine m_float0 rfl (fun _ _ => p_build (by rfl) rfl (by rfl)) rfl ?_
            refine m_eff rfl (e_box rfl (by rfl)) rfl (fun _ _ => ?_)
            rintro ⟨b28, rfl, rfl⟩
            refine ⟨.none (by kernel_rfl), ?_⟩
            refine m_float0 rfl (fun _ _ => p_assign rfl) rfl ?_
            refine m_nil ?_
            refine g_qn ?_
            exact g_joined (b28, b20, b22, b24, b26, na, nc) (by (repeat (first | exact trivial | refine ⟨by rfl, ?_⟩)); done) (by repeat' (first | exact Cover.nil | exact Take.here | apply Cover.cons | apply Take.there)) trivial
          refine m_eff rfl (e_make (by rfl) (by rfl) rfl rfl (by omega) (by first | omega | (dsimp only; omega)) (by omega)) rfl (fun _ _ => ?_)
          rintro ⟨b24, rfl, rfl⟩
          refine ⟨.none (by kernel_rfl), ?_⟩
          refine m_call (Hin := []) (Hr := ?hr59) (R := ?rr59) rfl wantedN rfl rfl rfl ?hin59 ?hc59 ?hk59
          case hin59 => repeat' (first | exact Cover.nil | exact Take.here | apply Cover.cons | apply Take.there)
          case hc59 => intro ρ' hρ hR; exact neigh_ok m a c E (hE.mono hρ) hlE hm ho
          rintro _ _ ⟨na, nc, rfl, rfl⟩
          refine ⟨.none (by kernel_rfl), ?_⟩
          refine m_float0 rfl (fun _ _ => p_build (by rfl) rfl (by rfl)) rfl ?_
          refine m_eff rfl (e_box rfl (by rfl)) rfl (fun _ _ => ?_)
          rintro ⟨b28, rfl, rfl⟩
          refine ⟨.none (by kernel_rfl), ?_⟩
          refine m_float0 rfl (fun _ _ => p_assign rfl) rfl ?_
          refine m_nil ?_
          refine g_qn ?_
          exact g_joined (b28, b20, b22, b24, b26, na, nc) (by (repeat (first | exact trivial | refine ⟨by rfl, ?_⟩)); done) (by repeat' (first | exact Cover.nil | exact Take.here | apply Cover.cons | apply Take.there)) trivial
        refine m_eff rfl (e_make (by rfl) (by rfl) rfl rfl (by omega) (by first | omega | (dsimp only; omega)) (by omega)) rfl (fun _ _ => ?_)
        rintro ⟨b24, rfl, rfl⟩
        refine ⟨.none (by kernel_rfl), ?_⟩
        refine m_or ?_ ?_
        · refine m_call (Hin := []) (Hr := ?hr60) (R := ?rr60) rfl wantedN rfl rfl rfl ?hin60 ?hc60 ?hk60
          case hin60 => repeat' (first | exact Cover.nil | exact Take.here | apply Cover.cons | apply Take.there)
          case hc60 => intro ρ' hρ hR; exact neigh_ok m a c E (hE.mono hρ) hlE hm ho
          rintro _ _ ⟨na, nc, rfl, rfl⟩
          refine ⟨.none (by kernel_rfl), ?_⟩
          refine m_eff rfl (e_make (by rfl) (by rfl) rfl rfl (by omega) (by first | omega | (dsimp only; omega)) (by omega)) rfl (fun _ _ => ?_)
          rintro ⟨b20, rfl, rfl⟩
          refine ⟨.none (by kernel_rfl), ?_⟩
          refine m_float0 rfl (fun _ _ => p_build (by rfl) rfl (by rfl)) rfl ?_
          refine m_eff rfl (e_box rfl (by rfl)) rfl (fun _ _ => ?_)
          rintro ⟨b28, rfl, rfl⟩
          refine ⟨.none (by kernel_rfl), ?_⟩
          refine m_float0 rfl (fun _ _ => p_assign rfl) rfl ?_
          refine m_nil ?_
          refine g_qn ?_
          exact g_joined (b28, b20, b22, b24, b26, na, nc) (by (repeat (first | exact trivial | refine ⟨by rfl, ?_⟩)); done) (by repeat' (first | exact Cover.nil | exact Take.here | apply Cover.cons | apply Take.there)) trivial
        refine m_eff rfl (e_make (by rfl) (by rfl) rfl rfl (by omega) (by first | omega | (dsimp only; omega)) (by omega)) rfl (fun _ _ => ?_)
        rintro ⟨b20, rfl, rfl⟩
        refine ⟨.none (by kernel_rfl), ?_⟩
        refine m_call (Hin := []) (Hr := ?hr61) (R := ?rr61) rfl wantedN rfl rfl rfl ?hin61 ?hc61 ?hk61
        case hin61 => repeat' (first | exact Cover.nil | exact Take.here | apply Cover.cons | apply Take.there)
        case hc61 => intro ρ' hρ hR; exact neigh_ok m a c E (hE.mono hρ) hlE hm ho
        rintro _ _ ⟨na, nc, rfl, rfl⟩
        refine ⟨.none (by kernel_rfl), ?_⟩
        refine m_float0 rfl (fun _ _ => p_build (by rfl) rfl (by rfl)) rfl ?_
        refine m_eff rfl (e_box rfl (by rfl)) rfl (fun _ _ => ?_)
        rintro ⟨b28, rfl, rfl⟩
        refine ⟨.none (by kernel_rfl), ?_⟩
        refine m_float0 rfl (fun _ _ => p_assign rfl) rfl ?_
        refine m_nil ?_
        refine g_qn ?_
        exact g_joined (b28, b20, b22, b24, b26, na, nc) (by (repeat (first | exact trivial | refine ⟨by rfl, ?_⟩)); done) (by repeat' (first | exact Cover.nil | exact Take.here | apply Cover.cons | apply Take.there)) trivial
      refine m_eff rfl (e_make (by rfl) (by rfl) rfl rfl (by omega) (by first | omega | (dsimp only; omega)) (by omega)) rfl (fun _ _ => ?_)
      rintro ⟨b24, rfl, rfl⟩
      refine ⟨.none (by kernel_rfl), ?_⟩
      refine m_or ?_ ?_
      · refine m_call (Hin := []) (Hr := ?hr62) (R := ?rr62) rfl wantedN rfl rfl rfl ?hin62 ?hc62 ?hk62
        case hin62 => repeat' (first | exact Cover.nil | exact Take.here | apply Cover.cons | apply Take.there)
        case hc62 => intro ρ' hρ hR; exact neigh_ok m a c E (hE.mono hρ) hlE hm ho
        rintro _ _ ⟨na, nc, rfl, rfl⟩
        refine ⟨.none (by kernel_rfl), ?_⟩
        refine m_or ?_ ?_
        · refine m_eff rfl (e_make (by rfl) (by rfl) rfl rfl (by omega) (by first | omega | (dsimp only; omega)) (by omega)) rfl (fun _ _ => ?_)
          rintro ⟨b20, rfl, rfl⟩
          refine ⟨.none (by kernel_rfl), ?_⟩
          refine m_eff rfl (e_make (by rfl) (by rfl) rfl rfl (by omega) (by first | omega | (dsimp only; omega)) (by omega)) rfl (fun _ _ => ?_)
          rintro ⟨b22, rfl, rfl⟩
          refine ⟨.none (by kernel_rfl), ?_⟩
          refine m_float0 rfl (fun _ _ => p_build (by rfl) rfl (by rfl)) rfl ?_
          refine m_eff rfl (e_box rfl (by rfl)) rfl (fun _ _ => ?_)
          rintro ⟨b28, rfl, rfl⟩
          refine ⟨.none (by kernel_rfl), ?_⟩
          refine m_float0 rfl (fun _ _ => p_assign rfl) rfl ?_
          refine m_nil ?_
          refine g_qn ?_
          exact g_joined (b28, b20, b22, b24, b26, na, nc) (by (repeat (first | exact trivial | refine ⟨by rfl, ?_⟩)); done) (by repeat' (first | exact Cover.nil | exact Take.here | apply Cover.cons | apply Take.there)) trivial
        refine m_eff rfl (e_make (by rfl) (by rfl) rfl rfl (by omega) (by first | omega | (dsimp only; omega)) (by omega)) rfl (fun _ _ => ?_)
        rintro ⟨b22, rfl, rfl⟩
        refine ⟨.none (by kernel_rfl), ?_⟩
        refine m_eff rfl (e_make (by rfl) (by rfl) rfl rfl (by omega) (by first | omega | (dsimp only; omega)) (by omega)) rfl (fun _ _ => ?_)
        rintro ⟨b20, rfl, rfl⟩
        refine ⟨.none (by kernel_rfl), ?_⟩
        refine m_float0 rfl (fun _ _ => p_build (by rfl) rfl (by rfl)) rfl ?_
        refine m_eff rfl (e_box rfl (by rfl)) rfl (fun _ _ => ?_)
        rintro ⟨b28, rfl, rfl⟩
        refine ⟨.none (by kernel_rfl), ?_⟩
        refine m_float0 rfl (fun _ _ => p_assign rfl) rfl ?_
        refine m_nil ?_
        refine g_qn ?_
        exact g_joined (b28, b20, b22, b24, b26, na, nc) (by (repeat (first | exact trivial | refine ⟨by rfl, ?_⟩)); done) (by repeat' (first | exact Cover.nil | exact Take.here | apply Cover.cons | apply Take.there)) trivial
      refine m_or ?_ ?_
      · refine m_eff rfl (e_make (by rfl) (by rfl) rfl rfl (by omega) (by first | omega | (dsimp only; omega)) (by omega)) rfl (fun _ _ => ?_)
        rintro ⟨b20, rfl, rfl⟩
        refine ⟨.none (by kernel_rfl), ?_⟩
        refine m_or ?_ ?_
        · refine m_call (Hin := []) (Hr := ?hr63) (R := ?rr63) rfl wantedN rfl rfl rfl ?hin63 ?hc63 ?hk63
          case hin63 => repeat' (first | exact Cover.nil | exact Take.here | apply Cover.cons | apply Take.there)
          case hc63 => intro ρ' hρ hR; exact neigh_ok m a c E (hE.mono hρ) hlE hm ho
          rintro _ _ ⟨na, nc, rfl, rfl⟩
          refine ⟨.none (by kernel_rfl), ?_⟩
          refine m_eff rfl (e_make (by rfl) (by rfl) rfl rfl (by omega) (by first | omega | (dsimp only; omega)) (by omega)) rfl (fun _ _ => ?_)
          rintro ⟨b22, rfl, rfl⟩
          refine ⟨.none (by kernel_rfl), ?_⟩
          refine m_float0 rfl (fun _ _ => p_build (by rfl) rfl (by rfl)) rfl ?_
          refine m_eff rfl (e_box rfl (by rfl)) rfl (fun _ _ => ?_)
          rintro ⟨b28, rfl, rfl⟩
          refine ⟨.none (by kernel_rfl), ?_⟩
          refine m_float0 rfl (fun _ _ => p_assign rfl) rfl ?_
          refine m_nil ?_
          refine g_qn ?_
          exact g_joined (b28, b20, b22, b24, b26, na, nc) (by (repeat (first | exact trivial | refine ⟨by rfl, ?_⟩)); done) (by repeat' (first | exact Cover.nil | exact Take.here | apply Cover.cons | apply Take.there)) trivial
        refine m_eff rfl (e_make (by rfl) (by rfl) rfl rfl (by omega) (by first | omega | (dsimp only; omega)) (by omega)) rfl (fun _ _ => ?_)
        rintro ⟨b22, rfl, rfl⟩
        refine ⟨.none (by kernel_rfl), ?_⟩
        refine m_call (Hin := []) (Hr := ?hr64) (R := ?rr64) rfl wantedN rfl rfl rfl ?hin64 ?hc64 ?hk64
        case hin64 => repeat' (first | exact Cover.nil | exact Take.here | apply Cover.cons | apply Take.there)
        case hc64 => intro ρ' hρ hR; exact neigh_ok m a c E (hE.mono hρ) hlE hm ho
        rintro _ _ ⟨na, nc, rfl, rfl⟩
        refine ⟨.none (by kernel_rfl), ?_⟩
        refine m_float0 rfl (fun _ _ => p_build (by rfl) rfl (by rfl)) rfl ?_
        refine m_eff rfl (e_box rfl (by rfl)) rfl (fun _ _ => ?_)
        rintro ⟨b28, rfl, rfl⟩
        refine ⟨.none (by kernel_rfl), ?_⟩
        refine m_float0 rfl (fun _ _ => p_assign rfl) rfl ?_
        refine m_nil ?_
        refine g_qn ?_
        exact g_joined (b28, b20, b22, b24, b26, na, nc) (by (repeat (first | exact trivial | refine ⟨by rfl, ?_⟩)); done) (by repeat' (first | exact Cover.nil | exact Take.here | apply Cover.cons | apply Take.there)) trivial
      refine m_eff rfl (e_make (by rfl) (by rfl) rfl rfl (by omega) (by first | omega | (dsimp only; omega)) (by omega)) rfl (fun _ _ => ?_)
      rintro ⟨b22, rfl, rfl⟩
      refine ⟨.none (by kernel_rfl), ?_⟩
      refine m_or ?_ ?_
      · refine m_call (Hin := []) (Hr := ?hr65) (R := ?rr65) rfl wantedN rfl rfl rfl ?hin65 ?hc65 ?hk65
        case hin65 => repeat' (first | exact Cover.nil | exact Take.here | apply Cover.cons | apply Take.there)
        case hc65 => intro ρ' hρ hR; exact neigh_ok m a c E (hE.mono hρ) hlE hm ho
        rintro _ _ ⟨na, nc, rfl, rfl⟩
        refine ⟨.none (by kernel_rfl), ?_⟩
        refine m_eff rfl (e_make (by rfl) (by rfl) rfl rfl (by omega) (by first | omega | (dsimp only; omega)) (by omega)) rfl (fun _ _ => ?_)
        rintro ⟨b20, rfl, rfl⟩
        refine ⟨.none (by kernel_rfl), ?_⟩
        refine m_float0 rfl (fun _ _ => p_build (by rfl) rfl (by rfl)) rfl ?_
        refine m_eff rfl (e_box rfl (by rfl)) rfl (fun _ _ => ?_)
        rintro ⟨b28, rfl, rfl⟩
        refine ⟨.none (by kernel_rfl), ?_⟩
        refine m_float0 rfl (fun _ _ => p_assign rfl) rfl ?_
        refine m_nil ?_
        refine g_qn ?_
        exact g_joined (b28, b20, b22, b24, b26, na, nc) (by (repeat (first | exact trivial | refine ⟨by rfl, ?_⟩)); done) (by repeat' (first | exact Cover.nil | exact Take.here | apply Cover.cons | apply Take.there)) trivial
      refine m_eff rfl (e_make (by rfl) (by rfl) rfl rfl (by omega) (by first | omega | (dsimp only; omega)) (by omega)) rfl (fun _ _ => ?_)
      rintro ⟨b20, rfl, rfl⟩
      refine ⟨.none (by kernel_rfl), ?_⟩
      refine m_call (Hin := []) (Hr := ?hr66) (R := ?rr66) rfl wantedN rfl rfl rfl ?hin66 ?hc66 ?hk66
      case hin66 => repeat' (first | exact Cover.nil | exact Take.here | apply Cover.cons | apply Take.there)
      case hc66 => intro ρ' hρ hR; exact neigh_ok m a c E (hE.mono hρ) hlE hm ho
      rintro _ _ ⟨na, nc, rfl, rfl⟩
      refine ⟨.none (by kernel_rfl), ?_⟩
      refine m_float0 rfl (fun _ _ => p_build (by rfl) rfl (by rfl)) rfl ?_
      refine m_eff rfl (e_box rfl (by rfl)) rfl (fun _ _ => ?_)
      rintro ⟨b28, rfl, rfl⟩
      refine ⟨.none (by kernel_rfl), ?_⟩
      refine m_float0 rfl (fun _ _ => p_assign rfl) rfl ?_
      refine m_nil ?_
      refine g_qn ?_
      exact g_joined (b28, b20, b22, b24, b26, na, nc) (by (repeat (first | exact trivial | refine ⟨by rfl, ?_⟩)); done) (by repeat' (first | exact Cover.nil | exact Take.here | apply Cover.cons | apply Take.there)) trivial
    rintro ⟨bt, bi, bl, bo, bk, na, nc⟩ -
    dsimp only
    rw [Int.toNat_natCast]
    refine g_qt ?_
    refine g_freeze (A := Own2 _ _ na nc _) (by repeat' (first | exact Take.here | apply Take.there)) ?_
    intro ρ1 hρ1 hNo
    have hN : NbR ρ1 na m (fun v => nbP E v) := Own2.ro hNo
    clear hNo
    refine g_weak (B := Blk bi (.cells (cellsG m tj0.ix).toArray 3 (0, 0))) (by repeat' (first | exact Take.here | apply Take.there)) (blk_eq (cellsG_zero m).symm) ?_
    refine g_weak (B := Blk bl (.cells (cellsG m tj0.lo).toArray 3 (0, 0))) (by repeat' (first | exact Take.here | apply Take.there)) (blk_eq (cellsG_zero m).symm) ?_
    refine g_weak (B := Blk bk (.cells (cellsG m tj0.nu).toArray 3 (0, 0))) (by repeat' (first | exact Take.here | apply Take.there)) (blk_eq (cellsG_zero m).symm) ?_
    refine g_weak (B := Blk bo (.cells (cellsH m tj0.on).toArray 4 (0, 0))) (by repeat' (first | exact Take.here | apply Take.there)) (blk_eq (cellsH_zero m).symm) ?_
    refine g_ownnil (e := 3) (size := 1) ?_
    refine g_close (K := TjK ⟨bt, bi, bl, bo, bk, na, nc, m⟩ tj0) ⟨none, 0, rfl⟩ (by repeat' (first | exact Cover.nil | exact Take.here | apply Cover.cons | apply Take.there)) ?_
    refine g_seq ?_
    refine g_seq ?_
    refine g_region ?_
    refine g_pure (p_move rfl) rfl ?_
    refine g_pure (p_move rfl) rfl ?_
    refine g_nil ?_
    refine g_qt ?_
    refine g_block ?_
    refine g_loop (fun s : Nat × Tj => [(0, .int .i64 m), (5, .int .i64 0), (6, .pointer (some ⟨bt, 0, none⟩)), (29, .int .i64 m), (30, .int .i64 s.1)])
      (fun s => [TjA ⟨bt, bi, bl, bo, bk, na, nc, m⟩ s.2]) (fun s => s.1 ≤ m ∧ TI m (nbN E) s.2 [] ∧ XI m s.2 ∧ ∀ u, u < s.1 → s.2.ix u ≠ 0) (fun s => m - s.1) (0, tj0) ⟨Nat.zero_le _, tj0_ti m _, tj0_xi m, fun u hu => absurd hu (Nat.not_lt_zero _)⟩ (by (repeat (first | exact trivial | refine ⟨by rfl, ?_⟩)); done) (by repeat' (first | exact Cover.nil | exact Take.here | apply Cover.cons | apply Take.there)) ?_
    rintro ⟨k, t⟩ ⟨hk, hT, hX, hvis⟩
    dsimp only at hk hT hX hvis ⊢
    have hct := hX.1
    have hpa := hX.2
    refine g_seq ?_
    refine g_region ?_
    refine g_pure (p_lss rfl rfl) rfl ?_
    refine g_nil ?_
    refine g_qt ?_
    refine g_seq ?_
    refine g_ifd rfl (fun p => ?_) (fun p => ?_)
    · have hk' : k < m := by omega
      refine g_open (by repeat' (first | exact Take.here | apply Take.there)) ?_
      rintro _ ⟨sa, sc, rfl⟩
      dsimp only
      refine g_skip ?_
      refine g_qt ?_
      refine g_seq ?_
      refine g_block ?_
      refine g_seq ?_
      refine g_region ?_
      refine g_pure (p_move rfl) rfl ?_
      refine g_pure (p_assign rfl) rfl ?_
      refine g_nil ?_
      refine g_qt ?_
      refine g_seq ?_
      refine g_region ?_
      refine g_pure (p_move rfl) rfl ?_
      refine g_pure (p_nilCheck rfl) rfl ?_
      refine g_pure (p_fieldAddr rfl) rfl ?_
      refine g_pure (p_load (by rfl) rfl (by first | (apply Has.own; (repeat' (first | exact Take.here | apply Take.there)); done) | exact Has.ro (by assumption)) (by first | rfl | assumption)) rfl ?_
      refine g_pure (p_move rfl) rfl ?_
      refine g_pure (p_indexAddr rfl rfl (by omega) (fun _ => rfl)) rfl ?_
      refine g_pure (p_load (by rfl) rfl (Has.own (by repeat' (first | exact Take.here | apply Take.there))) (cellsG_at' hk')) rfl ?_
      refine g_pure (p_eql rfl rfl) rfl ?_
      refine g_nil ?_
      refine g_qt ?_
      refine g_close (K := TjK ⟨bt, bi, bl, bo, bk, na, nc, m⟩ t) ⟨sa, sc, rfl⟩ (by repeat' (first | exact Cover.nil | exact Take.here | apply Cover.cons | apply Take.there)) ?_
      refine g_ifd rfl (fun z => ?_) (fun z => ?_)
      · have hz : t.ix k = 0 := by omega
        refine g_region ?_
        refine g_pure (p_move rfl) rfl ?_
        refine g_pure (p_move rfl) rfl ?_
        refine g_call (Hin := [TjA ⟨bt, bi, bl, bo, bk, na, nc, m⟩ t]) (Hr := ?hr67) (R := ?rr67) rfl rfl rfl ?hin67 ?hc67 ?hk67
        case hin67 => repeat' (first | exact Cover.nil | exact Take.here | apply Cover.cons | apply Take.there)
        case hc67 => intro ρ' hρ hR; exact search_ok ⟨bt, bi, bl, bo, bk, na, nc, m⟩ (by dsimp only; omega) E ho hlE (hN.mono hρ) t k hk' hT hX hz
        rintro _ _ ⟨rfl, t', rfl, hT', hX', hv', hvis'⟩
        refine g_nil ?_
        refine g_qb ?_
        refine g_qt ?_
        refine g_region ?_
        first | refine g_pure (p_addi rfl rfl (by omega)) rfl ?_ | refine g_pure (p_add rfl rfl) rfl ?_
        refine g_pure (p_move rfl) rfl ?_
        refine g_nil ?_
        refine g_qn ?_
        exact g_next (k + 1, t') (by (repeat (first | exact trivial | refine ⟨by rfl, ?_⟩)); done) (by repeat' (first | exact Cover.nil | exact Take.here | apply Cover.cons | apply Take.there)) ⟨by dsimp only; omega, hT', hX', fun u hu => by
          rcases Nat.lt_or_ge u k with h | h
          · exact hvis' u (hvis u h)
          · have : u = k := by dsimp only at hu; omega
            rw [this]; exact hv'⟩ (by dsimp only; omega)
      · have hz : t.ix k ≠ 0 := by omega
        refine g_skip ?_
        refine g_qb ?_
        refine g_qt ?_
        refine g_region ?_
        first | refine g_pure (p_addi rfl rfl (by omega)) rfl ?_ | refine g_pure (p_add rfl rfl) rfl ?_
        refine g_pure (p_move rfl) rfl ?_
        refine g_nil ?_
        refine g_qn ?_
        exact g_next (k + 1, t) (by (repeat (first | exact trivial | refine ⟨by rfl, ?_⟩)); done) (by repeat' (first | exact Cover.nil | exact Take.here | apply Cover.cons | apply Take.there)) ⟨by dsimp only; omega, hT, hX, fun u hu => by
          rcases Nat.lt_or_ge u k with h | h
          · exact hvis u h
          · have : u = k := by dsimp only at hu; omega
            rw [this]; exact hz⟩ (by dsimp only; omega)
    · have hke : k = m := by omega
      have hst : t.st = [] := by rw [hT.st]; rfl
      have hns : ∀ x, x ∉ t.st := fun x h => by rw [hst] at h; exact absurd h List.not_mem_nil
      have hpm : t.pa ≤ m := by omega
      have hnu : ∀ v, v < m → t.nu v < t.pa := fun v hv => hT.num v (hvis v (by omega)) (hns v)
      have hcls : ∀ u v, u < m → v < m → (t.nu u = t.nu v ↔ Rc E u v ∧ Rc E v u) := fun u v hu hv =>
        (hT.cls u v (hvis u (by omega)) (hns u) (hvis v (by omega)) (hns v)).trans ⟨fun ⟨a, b⟩ => ⟨(rch_rc ho).1 a, (rch_rc ho).1 b⟩, fun ⟨a, b⟩ => ⟨(rch_rc ho).2 a, (rch_rc ho).2 b⟩⟩
      refine g_open (by repeat' (first | exact Take.here | apply Take.there)) ?_
      rintro _ ⟨sa, sc, rfl⟩
      dsimp only
      refine g_exit ?_
      refine g_qt_exit ?_
      refine g_qn_exit ?_
      refine g_qb_exit ?_
      refine g_qt ?_
      refine g_seq ?_
      refine g_region ?_
      refine g_pure (p_move rfl) rfl ?_
      refine g_pure (p_nilCheck rfl) rfl ?_
      refine g_pure (p_fieldAddr rfl) rfl ?_
      refine g_pure (p_load (by rfl) rfl (by first | (apply Has.own; (repeat' (first | exact Take.here | apply Take.there)); done) | exact Has.ro (by assumption)) (by first | rfl | assumption)) rfl ?_
      refine g_eff (e_make (by rfl) (by rfl) rfl rfl (by omega) (by first | omega | (dsimp only; omega)) (by omega)) rfl (fun _ _ => ?_)
      rintro ⟨b49, rfl, rfl⟩
      refine g_pure (p_assign rfl) rfl ?_
      refine g_nil ?_
      refine g_qt ?_
      refine g_seq ?_
      refine g_region ?_
      refine g_pure (p_assign rfl) rfl ?_
      refine g_nil ?_
      refine g_qt ?_
      refine g_seq ?_
      refine g_seq ?_
      refine g_region ?_
      refine g_pure (p_move rfl) rfl ?_
      refine g_pure (p_move rfl) rfl ?_
      refine g_nil ?_
      refine g_qt ?_
      refine g_block ?_
      rw [Int.toNat_natCast]
      refine g_weak (B := Blk b49 (.cells (cellsG t.pa (plc 0 t.nu)).toArray 3 (0, 0))) .here (blk_eq (cellsG_zero t.pa).symm) ?_
      refine g_close (K := TjK ⟨bt, bi, bl, bo, bk, na, nc, m⟩ t) ⟨sa, sc, rfl⟩ (by repeat' (first | exact Cover.nil | exact Take.here | apply Cover.cons | apply Take.there)) ?_
      clear sa sc
      refine g_ownnil (e := 24) (size := 1) ?_
      refine g_nils (eo := 24) (ei := 3) (k := 0) .here ?_
      refine g_loop (fun s : Nat × Option Addr × Nat => [(0, .int .i64 m), (5, .int .i64 0), (6, .pointer (some ⟨bt, 0, none⟩)), (8, .slice (some ⟨b49, 0, none⟩) t.pa t.pa), (9, .slice s.2.1 (groups s.1 t.nu).length s.2.2), (50, .int .i64 m), (51, .int .i64 s.1)])
        (fun s => [TjA ⟨bt, bi, bl, bo, bk, na, nc, m⟩ t, Blk b49 (.cells (cellsG t.pa (plc s.1 t.nu)).toArray 3 (0, 0)), Own2 24 3 s.2.1 s.2.2 ((groups s.1 t.nu).map fun l : List Nat => l.map eN)]) (fun s => s.1 ≤ m) (fun s => m - s.1) (0, none, 0) (Nat.zero_le _) (by (repeat (first | exact trivial | refine ⟨by rfl, ?_⟩)); done) (by repeat' (first | exact Cover.nil | exact Take.here | apply Cover.cons | apply Take.there)) ?_
      rintro ⟨j, oa, oc⟩ hj
      dsimp only at hj ⊢
      have hgl := groups_len j t.nu
      refine g_seq ?_
      refine g_region ?_
      refine g_pure (p_lss rfl rfl) rfl ?_
      refine g_nil ?_
      refine g_qt ?_
      refine g_seq ?_
      refine g_ifd rfl (fun q => ?_) (fun q => ?_)
      · have hj' : j < m := by omega
        have hnj := hnu j hj'
        refine g_open (by repeat' (first | exact Take.here | apply Take.there)) ?_
        rintro _ ⟨sa, sc, rfl⟩
        dsimp only
        refine g_skip ?_
        refine g_qt ?_
        refine g_seq ?_
        refine g_block ?_
        refine g_seq ?_
        refine g_region ?_
        refine g_pure (p_move rfl) rfl ?_
        refine g_pure (p_assign rfl) rfl ?_
        refine g_nil ?_
        refine g_qt ?_
        refine g_seq ?_
        refine g_region ?_
        refine g_pure (p_move rfl) rfl ?_
        refine g_pure (p_nilCheck rfl) rfl ?_
        refine g_pure (p_fieldAddr rfl) rfl ?_
        refine g_pure (p_load (by rfl) rfl (by first | (apply Has.own; (repeat' (first | exact Take.here | apply Take.there)); done) | exact Has.ro (by assumption)) (by first | rfl | assumption)) rfl ?_
        refine g_pure (p_move rfl) rfl ?_
        refine g_pure (p_indexAddr rfl rfl (by omega) (fun _ => rfl)) rfl ?_
        refine g_pure (p_load (by rfl) rfl (Has.own (by repeat' (first | exact Take.here | apply Take.there))) (cellsG_at' hj')) rfl ?_
        refine g_pure (p_assign rfl) rfl ?_
        refine g_nil ?_
        refine g_qt ?_
        refine g_seq ?_
        refine g_seq ?_
        refine g_region ?_
        refine g_pure (p_move rfl) rfl ?_
        refine g_pure (p_move rfl) rfl ?_
        refine g_pure (p_indexAddr rfl rfl (by omega) (fun _ => rfl)) rfl ?_
        refine g_pure (p_load (by rfl) rfl (Has.own (by repeat' (first | exact Take.here | apply Take.there))) (cellsG_at' hnj)) rfl ?_
        refine g_pure (p_eql rfl rfl) rfl ?_
        refine g_nil ?_
        refine g_qt ?_
        refine g_ifd rfl (fun z => ?_) (fun z => ?_)
        · have hz : plc j t.nu (t.nu j) = 0 := by omega
          obtain ⟨h1, h2⟩ := parts_new hz
          have hset := cellsG_plc (m := t.pa) (g := plc j t.nu) (g' := plc (j + 1) t.nu) (u := t.nu j) (x := (groups j t.nu).length + 1) hnj (by rw [h2, if_pos rfl]) (fun c hc => by rw [h2, if_neg hc])
          have hp := cellsG_at' (n := t.pa) (g := plc (j + 1) t.nu) hnj
          rw [h2, if_pos rfl] at hp
          have hrl : ((groups j t.nu).map fun l : List Nat => l.map eN).length = (groups j t.nu).length := List.length_map _
          have hrow : (groups (j + 1) t.nu).map (fun l : List Nat => l.map eN) = ((groups j t.nu).map (fun l : List Nat => l.map eN) ++ [[]]).set (groups j t.nu).length (([] : List Value) ++ [eN j]) := by
            rw [h1, List.map_append, List.set_append_right _ _ (by rw [hrl]; exact Nat.le_refl _), hrl, Nat.sub_self]; rfl
          have hlen : (groups (j + 1) t.nu).length = (groups j t.nu).length + 1 := by rw [h1, List.length_append]; rfl
          generalize hG : ((groups j t.nu).map fun l : List Nat => l.map eN) = rows at *
          generalize (groups j t.nu).length = gl at *
          have hrl' : rows.length = gl := hrl
          subst hrl'
          refine g_open2 (a := oa) (by repeat' (first | exact Take.here | apply Take.there)) fun hs hhs => ?_
          refine g_seq ?_
          refine g_region ?_
          refine g_pure (p_move rfl) rfl ?_
          refine g_eff (e_bs (xs := [.const (.slice .none 0 0)]) rfl rfl rfl (by rfl) (by rfl) rfl (by rfl)) rfl (fun _ _ => ?_)
          rintro ⟨b67, rfl, rfl⟩
          refine g_eff (e_appendO (by rfl) (by rfl) rfl rfl (by first | (apply Has.own; (repeat' (first | exact Take.here | apply Take.there)); done) | exact Has.ro (by assumption)) (by rfl) (by rfl) (by repeat' (first | exact Take.here | apply Take.there)) (by omega) (by first | omega | (dsimp only; omega) | (simp <;> omega)) (by omega)) rfl (fun _ _ => ?_)
          rintro ⟨a68, c68, rfl, rfl⟩
          refine g_pure (p_assign rfl) rfl ?_
          refine g_nil ?_
          refine g_qt ?_
          refine g_region ?_
          refine g_pure (p_move rfl) rfl ?_
          refine g_pure (p_move rfl) rfl ?_
          refine g_pure (p_move rfl) rfl ?_
          refine g_pure (p_len (by rfl) rfl) rfl ?_
          refine g_pure (p_indexAddr rfl rfl (by omega) (by first | exact fun _ => rfl | assumption)) rfl ?_
          refine g_eff0 (e_store1 (by rfl) rfl rfl rfl (by repeat' (first | exact Take.here | apply Take.there)) (by rw [cellsG_len, Int.toNat_natCast]; show 0 + t.nu j * 1 < t.pa; omega)) (fun _ _ => ?_)
          rintro rfl
          refine g_nil ?_
          refine g_qt ?_
          refine g_weak (B := Blk b49 (.cells (cellsG t.pa (plc (j + 1) t.nu)).toArray 3 (0, 0))) (by repeat' (first | exact Take.here | apply Take.there)) (blk_eq hset) ?_
          refine g_ownnil (e := 3) (size := 1) ?_
          refine g_push2 (eo := 24) (r := []) hhs (by repeat' (first | exact Take.here | apply Take.there)) (by repeat' (first | exact Take.here | apply Take.there)) (by repeat' (first | exact Take.here | apply Take.there)) ?_
          refine g_rowO (j := rows.length) (by repeat' (first | exact Take.here | apply Take.there)) (by simp) ?_
          rintro g cur ra rc rfl q1 q2 q3 q4
          rw [show (rows ++ [([] : List Value)])[rows.length]'(by simp) = [] by simp, List.length_nil] at q4 ⊢
          have q4' : cur[0 + (((rows.length + 1 : Nat) : Int) - 1).toNat * 1]? = some (.slice ra 0 rc) := by rw [show (((rows.length + 1 : Nat) : Int) - 1).toNat = rows.length by omega]; exact q4
          rw [List.length_append, List.length_singleton] at q1
          refine g_close (K := TjK ⟨bt, bi, bl, bo, bk, na, nc, m⟩ t) ⟨sa, sc, rfl⟩ (by repeat' (first | exact Cover.nil | exact Take.here | apply Cover.cons | apply Take.there)) ?_
          refine m_begin (.fl 0 0 (.fl 1 0 (.fl 2 0 (.fl 3 0 (.fl 4 1 (.fl 5 0 (.fl 6 0 (.fl 7 0 (.fl 8 0 (.fl 9 0 (.fl 10 1 (.fl 11 0 (.fl 12 0 (.fl 13 1 (.fl 14 0 (.ef 15 (.ef 16 (.fl 17 0 (.ef 18 .done))))))))))))))))))) [TjA ⟨bt, bi, bl, bo, bk, na, nc, m⟩ t, Blk b49 (.cells (cellsG t.pa (plc (j + 1) t.nu)).toArray 3 (0, 0)), Blk g (.cells cur.toArray 24 (0, 0))] (by kernel_rfl) (by kernel_rfl) (by repeat' (first | exact Cover.nil | exact Take.here | apply Cover.cons | apply Take.there)) ?_
          refine m_float0 rfl (fun _ _ => p_move rfl) rfl ?_
          refine m_float0 rfl (fun _ _ => p_move rfl) rfl ?_
          refine m_float0 rfl (fun _ _ => p_move rfl) rfl ?_
          refine m_float0 rfl (fun _ _ => p_indexAddr rfl rfl (by omega) (fun _ => rfl)) rfl ?_
          refine m_float rfl (p_load (by rfl) rfl (Has.own (by repeat' (first | exact Take.here | apply Take.there))) hp) rfl ?_
          first | refine m_float0 rfl (fun _ _ => p_subi rfl rfl (by omega)) rfl ?_ | refine m_float0 rfl (fun _ _ => p_sub rfl rfl) rfl ?_
          refine m_float0 rfl (fun _ _ => p_move rfl) rfl ?_
          refine m_float0 rfl (fun _ _ => p_move rfl) rfl ?_
          refine m_float0 rfl (fun _ _ => p_move rfl) rfl ?_
          refine m_float0 rfl (fun _ _ => p_indexAddr rfl rfl (by omega) (fun _ => rfl)) rfl ?_
          refine m_float rfl (p_load (by rfl) rfl (Has.own (by repeat' (first | exact Take.here | apply Take.there))) hp) rfl ?_
          first | refine m_float0 rfl (fun _ _ => p_subi rfl rfl (by omega)) rfl ?_ | refine m_float0 rfl (fun _ _ => p_sub rfl rfl) rfl ?_
          refine m_float0 rfl (fun _ _ => p_indexAddr rfl rfl (by omega) (fun _ => rfl)) rfl ?_
          refine m_float rfl (p_load (by rfl) rfl (Has.own (by repeat' (first | exact Take.here | apply Take.there))) q4') rfl ?_
          refine m_float0 rfl (fun _ _ => p_move rfl) rfl ?_
          refine m_eff rfl (e_bs (xs := [.tmp 88]) rfl rfl rfl (by rfl) (by rfl) rfl (by rfl)) rfl (fun _ _ => ?_)
          rintro ⟨b89, rfl, rfl⟩
          refine ⟨.some (by repeat' (first | exact Cover.nil | exact Take.here | apply Cover.cons | apply Take.there)), ?_⟩
          refine m_eff rfl (e_appendO (by rfl) (by rfl) rfl rfl (by first | (apply Has.own; (repeat' (first | exact Take.here | apply Take.there)); done) | exact Has.ro (by assumption)) (by rfl) (by rfl) (by repeat' (first | exact Take.here | apply Take.there)) (by omega) (by first | omega | (dsimp only; omega) | (simp <;> omega)) (by omega)) rfl (fun _ _ => ?_)
          rintro ⟨a90, c90, rfl, rfl⟩
          refine ⟨.some (by repeat' (first | exact Cover.nil | exact Take.here | apply Cover.cons | apply Take.there)), ?_⟩
          refine m_float0 rfl (fun _ _ => p_indexAddr rfl rfl (by omega) (fun _ => rfl)) rfl ?_
          first | refine m_eff0 rfl (e_storeO rfl rfl (by rfl) (by rfl) (by rfl) (by repeat' (first | exact Take.here | apply Take.there)) (by rfl)) (fun _ _ => ?_) | refine m_eff0 rfl (e_store1 (by rfl) rfl rfl rfl (by repeat' (first | exact Take.here | apply Take.there)) (by first | decide | (simp <;> omega) | omega)) (fun _ _ => ?_)
          rintro rfl
          refine ⟨.none (by kernel_rfl), ?_⟩
          refine m_nil ?_
          refine g_qb ?_
          refine g_qt ?_
          refine g_region ?_
          first | refine g_pure (p_addi rfl rfl (by omega)) rfl ?_ | refine g_pure (p_add rfl rfl) rfl ?_
          refine g_pure (p_move rfl) rfl ?_
          refine g_nil ?_
          refine g_qn ?_
          rw [show (((rows.length + 1 : Nat) : Int) - 1).toNat = rows.length by omega]
          refine g_rowC (j := rows.length) (r := ([] : List Value) ++ [eN j]) (a' := a90) (c' := c90) (eo := 24) (g := g) (cap := c68) (rows := rows ++ [[]]) (by simp) (by simp; omega) q2 q3 (by repeat' (first | exact Take.here | apply Take.there)) (by repeat' (first | exact Take.here | apply Take.there)) (by repeat' (first | exact Take.here | apply Take.there)) ?_
          rw [← hrow, ← hlen]
          exact g_next (j + 1, some ⟨g, 0, none⟩, c68) (by (repeat (first | exact trivial | refine ⟨by rfl, ?_⟩)); done) (by repeat' (first | exact Cover.nil | exact Take.here | apply Cover.cons | apply Take.there)) (by dsimp only; omega) (by dsimp only; omega)
        · obtain ⟨i, hz⟩ : ∃ i, plc j t.nu (t.nu j) = i + 1 := ⟨plc j t.nu (t.nu j) - 1, by omega⟩
          obtain ⟨hi, h1, h2⟩ := parts_old hz
          have hpf : plc (j + 1) t.nu = plc j t.nu := funext h2
          have hp := cellsG_at' (n := t.pa) (g := plc (j + 1) t.nu) hnj
          rw [hpf, hz] at hp
          obtain ⟨rows, hG, hrl, row, hri, hrw, hrow⟩ : ∃ rows : List (List Value), ((groups j t.nu).map fun l : List Nat => l.map eN) = rows ∧ rows.length = (groups j t.nu).length ∧ ∃ row, rows[i]? = some row ∧ row.length ≤ j ∧ (groups (j + 1) t.nu).map (fun l : List Nat => l.map eN) = rows.set i (row ++ [eN j]) :=
            ⟨_, rfl, List.length_map _, _, List.getElem?_eq_getElem (by simpa using hi), groups_row hi, by rw [h1, List.map_set, List.map_append, List.getElem_map]; rfl⟩
          rw [hG]
          have hil : i < rows.length := by omega
          have hrr : rows[i]'hil = row := by rw [List.getElem?_eq_getElem hil] at hri; exact Option.some.inj hri
          have hlen : (groups (j + 1) t.nu).length = (groups j t.nu).length := by rw [h1, List.length_set]
          refine g_rowO (j := i) (by repeat' (first | exact Take.here | apply Take.there)) hil ?_
          rintro g cur ra rc rfl q1 q2 q3 q4
          rw [hrr] at q4 ⊢
          have q4' : cur[0 + (((i + 1 : Nat) : Int) - 1).toNat * 1]? = some (.slice ra row.length rc) := by rw [show (((i + 1 : Nat) : Int) - 1).toNat = i by omega]; exact q4
          refine g_close (K := TjK ⟨bt, bi, bl, bo, bk, na, nc, m⟩ t) ⟨sa, sc, rfl⟩ (by repeat' (first | exact Cover.nil | exact Take.here | apply Cover.cons | apply Take.there)) ?_
          refine g_skip ?_
          refine g_qt ?_
          refine m_begin (.fl 0 0 (.fl 1 0 (.fl 2 0 (.fl 3 0 (.fl 4 1 (.fl 5 0 (.fl 6 0 (.fl 7 0 (.fl 8 0 (.fl 9 0 (.fl 10 1 (.fl 11 0 (.fl 12 0 (.fl 13 1 (.fl 14 0 (.ef 15 (.ef 16 (.fl 17 0 (.ef 18 .done))))))))))))))))))) [TjA ⟨bt, bi, bl, bo, bk, na, nc, m⟩ t, Blk b49 (.cells (cellsG t.pa (plc j t.nu)).toArray 3 (0, 0)), Blk g (.cells cur.toArray 24 (0, 0))] (by kernel_rfl) (by kernel_rfl) (by repeat' (first | exact Cover.nil | exact Take.here | apply Cover.cons | apply Take.there)) ?_
          refine m_float0 rfl (fun _ _ => p_move rfl) rfl ?_
          refine m_float0 rfl (fun _ _ => p_move rfl) rfl ?_
          refine m_float0 rfl (fun _ _ => p_move rfl) rfl ?_
          refine m_float0 rfl (fun _ _ => p_indexAddr rfl rfl (by omega) (fun _ => rfl)) rfl ?_
          refine m_float rfl (p_load (by rfl) rfl (Has.own (by repeat' (first | exact Take.here | apply Take.there))) hp) rfl ?_
          first | refine m_float0 rfl (fun _ _ => p_subi rfl rfl (by omega)) rfl ?_ | refine m_float0 rfl (fun _ _ => p_sub rfl rfl) rfl ?_
          refine m_float0 rfl (fun _ _ => p_move rfl) rfl ?_
          refine m_float0 rfl (fun _ _ => p_move rfl) rfl ?_
          refine m_float0 rfl (fun _ _ => p_move rfl) rfl ?_
          refine m_float0 rfl (fun _ _ => p_indexAddr rfl rfl (by omega) (fun _ => rfl)) rfl ?_
          refine m_float rfl (p_load (by rfl) rfl (Has.own (by repeat' (first | exact Take.here | apply Take.there))) hp) rfl ?_
          first | refine m_float0 rfl (fun _ _ => p_subi rfl rfl (by omega)) rfl ?_ | refine m_float0 rfl (fun _ _ => p_sub rfl rfl) rfl ?_
          refine m_float0 rfl (fun _ _ => p_indexAddr rfl rfl (by omega) (fun _ => rfl)) rfl ?_
          refine m_float rfl (p_load (by rfl) rfl (Has.own (by repeat' (first | exact Take.here | apply Take.there))) q4') rfl ?_
          refine m_float0 rfl (fun _ _ => p_move rfl) rfl ?_
          refine m_eff rfl (e_bs (xs := [.tmp 88]) rfl rfl rfl (by rfl) (by rfl) rfl (by rfl)) rfl (fun _ _ => ?_)
          rintro ⟨b89, rfl, rfl⟩
          refine ⟨.some (by repeat' (first | exact Cover.nil | exact Take.here | apply Cover.cons | apply Take.there)), ?_⟩
          refine m_eff rfl (e_appendO (by rfl) (by rfl) rfl rfl (by first | (apply Has.own; (repeat' (first | exact Take.here | apply Take.there)); done) | exact Has.ro (by assumption)) (by rfl) (by rfl) (by repeat' (first | exact Take.here | apply Take.there)) (by omega) (by first | omega | (dsimp only; omega) | (simp <;> omega)) (by omega)) rfl (fun _ _ => ?_)
          rintro ⟨a90, c90, rfl, rfl⟩
          refine ⟨.some (by repeat' (first | exact Cover.nil | exact Take.here | apply Cover.cons | apply Take.there)), ?_⟩
          refine m_float0 rfl (fun _ _ => p_indexAddr rfl rfl (by omega) (fun _ => rfl)) rfl ?_
          first | refine m_eff0 rfl (e_storeO rfl rfl (by rfl) (by rfl) (by rfl) (by repeat' (first | exact Take.here | apply Take.there)) (by rfl)) (fun _ _ => ?_) | refine m_eff0 rfl (e_store1 (by rfl) rfl rfl rfl (by repeat' (first | exact Take.here | apply Take.there)) (by first | decide | (simp <;> omega) | omega)) (fun _ _ => ?_)
          rintro rfl
          refine ⟨.none (by kernel_rfl), ?_⟩
          refine m_nil ?_
          refine g_qb ?_
          refine g_qt ?_
          refine g_region ?_
          first | refine g_pure (p_addi rfl rfl (by omega)) rfl ?_ | refine g_pure (p_add rfl rfl) rfl ?_
          refine g_pure (p_move rfl) rfl ?_
          refine g_nil ?_
          refine g_qn ?_
          rw [show (((i + 1 : Nat) : Int) - 1).toNat = i by omega]
          refine g_rowC (j := i) (r := row ++ [eN j]) (a' := a90) (c' := c90) (eo := 24) (g := g) (cap := oc) (rows := rows) (by omega) (by omega) q2 q3 (by repeat' (first | exact Take.here | apply Take.there)) (by simp only [List.length_append, List.length_singleton]; exact (by repeat' (first | exact Take.here | apply Take.there))) (by simp only [List.length_append, List.length_singleton]; exact (by repeat' (first | exact Take.here | apply Take.there))) ?_
          rw [← hrow, ← hpf, ← hlen]
          exact g_next (j + 1, some ⟨g, 0, none⟩, oc) (by (repeat (first | exact trivial | refine ⟨by rfl, ?_⟩)); done) (by repeat' (first | exact Cover.nil | exact Take.here | apply Cover.cons | apply Take.there)) (by dsimp only; omega) (by dsimp only; omega)
      · have hje : j = m := by omega
        have hA : partsA m E = ((groups m t.nu).map fun l : List Nat => l.map fun x : Nat => (x : Int), 0) := by
          unfold partsA
          rw [if_pos hv, Int.toNat_natCast, partsP_nu hcls]
        subst hje
        refine g_exit ?_
        refine g_qt_exit ?_
        refine g_qn_exit ?_
        refine g_qb_exit ?_
        refine g_qt ?_
        refine g_seq ?_
        refine g_region ?_
        refine g_pure (p_move rfl) rfl ?_
        refine g_pure (p_assign rfl) rfl ?_
        refine g_pure (p_assign rfl) rfl ?_
        refine g_nil ?_
        refine g_qt ?_
        refine g_ret ?_
        rw [hA]
        rw [gcells, show (groups j t.nu).length = ((groups j t.nu).map fun l : List Nat => l.map fun x : Nat => (x : Int)).length from (List.length_map _).symm]
        refine g_thaw hρ1 ?_
        exact g_post (rs := [.tmp 4, .tmp 5]) rfl (.tmp rfl (.tmp rfl .nil)) ⟨oa, oc, rfl, rfl⟩ (by repeat' (first | exact Cover.nil | exact Take.here | apply Cover.cons | apply Take.there))
end Go.Proofs.Ytmefecnjliadaaa
