/- Chapter 4: an order goes forward, and is there exactly if there is no cycle. Conditions: none. -/
import Derived.Test.YtmefecnjliadaaaNt
import Derived.Test.YtmefecnjliadaaaNv
namespace Go.Z.Gr
set_option maxRecDepth 8000
set_option linter.unusedVariables false
set_option linter.unusedSimpArgs false
set_option linter.unusedSectionVars false
open Go Go.Z Go.Z.Gra
theorem EdR.take {ρ : Nat → Obj → Prop} {a : Option Addr} {E : Ed} (m : Nat) (h : EdR ρ a E) : EdR ρ a (E.take m) := by
  obtain ⟨h1, b, off, cs, T, fz, h2⟩ := h
  refine ⟨flatE_len _, b, off, cs, T, fz, fun h0 => ?_⟩
  rw [List.length_take] at h0
  obtain ⟨r1, r2, r3⟩ := h2 (by omega)
  refine ⟨r1, r2, fun j v hj => r3 j v ?_⟩
  have e : flatE E = flatE (E.take m) ++ flatE (E.drop m) := by rw [← flatE_append, List.take_append_drop]
  rw [e, List.getElem?_append_left (List.getElem?_eq_some_iff.1 hj).1]
  exact hj
def gAt (l : List Int) (k : Nat) (u : Nat) : Nat := if (u : Int) ∈ l.take k then l.idxOf (u : Int) + 1 else 0
theorem gAt_new {l : List Int} (hn : l.Nodup) {k u : Nat} (hk : k < l.length) (hu : l[k] = (u : Int)) : gAt l k u = 0 := by
  unfold gAt
  rw [if_neg]
  intro hm
  obtain ⟨i, hi, e⟩ := List.mem_take_iff_getElem.1 hm
  rw [← hu] at e
  have := (List.getElem_inj hn).1 e
  omega
theorem gAt_set {l : List Int} (hn : l.Nodup) {m k u : Nat} (hk : k < l.length) (hu : l[k] = (u : Int)) : (cellsG m (gAt l k)).set (0 + (u : Int).toNat * 1) (.int .i64 ((k : Int) + 1)) = cellsG m (gAt l (k + 1)) := by
  rw [Int.toNat_natCast, Nat.zero_add, Nat.mul_one]
  have htk := take_snoc hk
  refine cellsG_set ?_ fun i _ hi => ?_
  · unfold gAt
    have := List.Nodup.idxOf_getElem hn k hk
    rw [hu] at this
    rw [if_pos (by rw [htk, hu]; exact List.mem_append_right _ List.mem_cons_self), this]
    omega
  · unfold gAt
    rw [htk, hu]
    have : (i : Int) ∈ l.take k ++ [(u : Int)] ↔ (i : Int) ∈ l.take k := by
      rw [List.mem_append, List.mem_singleton]
      exact ⟨fun h => h.resolve_right (by omega), .inl⟩
    by_cases g : (i : Int) ∈ l.take k
    · rw [if_pos (this.2 g), if_pos g]
    · rw [if_neg (fun h => g (this.1 h)), if_neg g]
theorem gAt_all {l : List Int} {u : Nat} (h : (u : Int) ∈ l) : gAt l l.length u = l.idxOf (u : Int) + 1 := by
  unfold gAt
  rw [List.take_length, if_pos h]
theorem fwd_cases {n : Int} {E : Ed} : (orderA n E = ([], 2) ∧ cycleA n E = ([], 2)) ∨ (orderA n E = ([], 13) ∧ cycleA n E = (cycleP E n.toNat, 0)) ∨ (0 ≤ n ∧ n ≤ 4096 ∧ EdOk n.toNat E ∧ orderA n E = (orderP E n.toNat, 0) ∧ cycleA n E = ([], 8) ∧ Fwd E n.toNat (orderP E n.toNat) ∧ (orderP E n.toNat).length = n.toNat) := by
  unfold orderA cycleA
  by_cases hv : validP n E [] = true
  · rw [if_pos hv, if_pos hv]
    have hn : 0 ≤ n ∧ n ≤ 4096 := by
      have := hv
      unfold validP at this
      rw [Bool.and_eq_true, Bool.and_eq_true] at this
      exact of_decide_eq_true this.1.1
    obtain ⟨m, rfl⟩ : ∃ m : Nat, n = m := ⟨n.toNat, by omega⟩
    obtain ⟨hm, ho⟩ := valid_edok hv
    rw [Int.toNat_natCast]
    have hoc := order_cycle ho
    have hF := order_fwd ho
    have hl := hF.len
    right
    by_cases h : (orderP E m).length < m
    · left
      rw [if_pos h, if_neg (hoc.1 h)]
      exact ⟨rfl, rfl⟩
    · right
      have hc : cycleP E m = [] := by
        by_cases e : cycleP E m = []
        · exact e
        · exact absurd (hoc.2 e) h
      rw [if_neg h, if_pos hc]
      exact ⟨by omega, by omega, ho, rfl, rfl, hF, by omega⟩
  · rw [if_neg hv, if_neg hv]
    exact .inl ⟨rfl, rfl⟩
end Go.Z.Gr
namespace Go.Proofs.Ytmefecnjliadaaa
set_option maxRecDepth 8000
set_option linter.unusedVariables false
set_option linter.unusedSimpArgs false
set_option linter.unusedSectionVars false
open Go Go.Z Go.Z.Gr Go.Z.Gra
theorem forward_ok {ρ : Nat → Obj → Prop} (n : Int) (a : Option Addr) (c : Nat) (E : Ed) (hE : RSl ρ 2 a E.length (E.flatMap fun e => [Z.encI e.1, Z.encI e.2])) (hc : E.length ≤ c) (hm : c ≤ maxLen) :
    Con Try.prog ρ 6 #[.int .i64 n, .slice a E.length c] [] (fun v _ => v = .bool true) := by
  have hE : EdR ρ a E := hE
  have hm' : c ≤ 9223372036854775807 := hm
  clear hm
  refine con_intro Try.func6 Try.call6 rfl Try.ntmps6 rfl (L := [(0, _), (1, _)]) rfl fun w hh => ?_
  refine g_seq ?_
  refine g_region ?_
  refine g_pure (p_assign rfl) rfl ?_
  refine g_nil ?_
  refine g_qt ?_
  refine g_seq ?_
  refine g_region ?_
  refine g_pure (p_move rfl) rfl ?_
  refine g_call (Hin := []) (Hr := ?hr1) (R := ?rr1) rfl rfl rfl ?hin1 ?hc1 ?hk1
  case hin1 => repeat' (first | exact Cover.nil | exact Take.here | apply Cover.cons | apply Take.there)
  case hc1 => intro ρ' hρ hR; exact few_ok a c E (hE.mono hρ) hc hm'
  rintro _ _ ⟨rfl, rfl⟩
  have hF : EdR ρ a (E.take 400) := hE.take 400
  have hlF : (E.take 400).length ≤ 400 := by rw [List.length_take]; omega
  clear hE hc
  generalize E.take 400 = F at *
  refine g_pure (p_assign rfl) rfl ?_
  refine g_nil ?_
  refine g_qt ?_
  refine g_seq ?_
  refine g_seq ?_
  refine g_region ?_
  refine g_pure (p_move rfl) rfl ?_
  refine g_pure (p_gtr rfl rfl) rfl ?_
  refine g_nil ?_
  refine g_qt ?_
  refine g_ifd rfl (fun h1 => ?_) (fun h1 => ?_)
  · refine g_seq ?_
    refine g_region ?_
    refine g_call (Hin := []) (Hr := ?hr2) (R := ?rr2) rfl rfl rfl ?hin2 ?hc2 ?hk2
    case hin2 => repeat' (first | exact Cover.nil | exact Take.here | apply Cover.cons | apply Take.there)
    case hc2 => intro ρ' hρ hR; exact awake_ok
    rintro _ _ ⟨rfl, rfl⟩
    refine g_pure (p_assign rfl) rfl ?_
    refine g_nil ?_
    refine g_qt ?_
    refine g_ret ?_
    refine g_qt_ret ?_
    exact g_post (rs := [.tmp 4]) rfl (.tmp rfl .nil) rfl .nil
  · refine g_skip ?_
    refine g_qt ?_
    refine g_seq ?_
    refine g_region ?_
    refine g_pure (p_move rfl) rfl ?_
    refine g_pure (p_move rfl) rfl ?_
    refine g_call (Hin := []) (Hr := ?hr3) (R := ?rr3) rfl rfl rfl ?hin3 ?hc3 ?hk3
    case hin3 => repeat' (first | exact Cover.nil | exact Take.here | apply Cover.cons | apply Take.there)
    case hc3 => intro ρ' hρ hR; exact order_ok n a c F (hF.mono hρ) (by omega)
    rintro _ _ ⟨x1, y1, rfl, rfl⟩
    refine g_pure (p_move rfl) rfl ?_
    refine g_pure (p_extract rfl rfl) rfl ?_
    refine g_pure (p_extract rfl rfl) rfl ?_
    refine g_pure (p_assign rfl) rfl ?_
    refine g_pure (p_assign rfl) rfl ?_
    refine g_nil ?_
    refine g_qt ?_
    refine g_seq ?_
    refine g_region ?_
    refine g_pure (p_move rfl) rfl ?_
    refine g_pure (p_move rfl) rfl ?_
    refine g_call (Hin := []) (Hr := ?hr4) (R := ?rr4) rfl rfl rfl ?hin4 ?hc4 ?hk4
    case hin4 => repeat' (first | exact Cover.nil | exact Take.here | apply Cover.cons | apply Take.there)
    case hc4 => intro ρ' hρ hR; exact cycle_ok n a c F (hF.mono hρ) (by omega)
    rintro _ _ ⟨x2, y2, rfl, rfl⟩
    rcases fwd_cases (n := n) (E := F) with ⟨e1, e2⟩ | ⟨e1, e2⟩ | ⟨hn0, hn1, ho, e1, e2, hW, hlen⟩
    · rw [e1, e2]
      dsimp only
      refine g_pure (p_move rfl) rfl ?_
      refine g_pure (p_extract rfl rfl) rfl ?_
      refine g_pure (p_extract rfl rfl) rfl ?_
      refine g_pure (p_assign rfl) rfl ?_
      refine g_pure (p_assign rfl) rfl ?_
      refine g_nil ?_
      refine g_qt ?_
      refine g_seq ?_
      refine g_seq ?_
      refine g_region ?_
      refine g_pure (p_move rfl) rfl ?_
      refine g_pure (p_neq rfl rfl) rfl ?_
      refine g_nil ?_
      refine g_qt ?_
      refine g_ift rfl ?_
      refine g_seq ?_
      refine g_region ?_
      refine g_pure (p_move rfl) rfl ?_
      refine g_pure (p_len (by rfl) rfl) rfl ?_
      refine g_pure (p_eqlT rfl rfl rfl) rfl ?_
      refine g_pure (p_move rfl) rfl ?_
      refine g_yes rfl rfl ?_
      refine g_pure (p_move rfl) rfl ?_
      refine g_yes rfl rfl ?_
      refine g_pure (p_eql rfl rfl) rfl ?_
      refine g_yes rfl rfl ?_
      refine g_pure (p_move rfl) rfl ?_
      refine g_yes rfl rfl ?_
      refine g_pure (p_eql rfl rfl) rfl ?_
      refine g_yes rfl rfl ?_
      refine g_pure (p_eqlb (by rfl) rfl rfl) rfl ?_
      first | refine g_pure (p_pickt rfl rfl) rfl ?_ | refine g_pure (p_pickf rfl rfl) rfl ?_
      refine g_pure (p_move rfl) rfl ?_
      refine g_yes rfl rfl ?_
      refine g_pure (p_move rfl) rfl ?_
      refine g_yes rfl rfl ?_
      refine g_pure (p_eql rfl rfl) rfl ?_
      refine g_yes rfl rfl ?_
      refine g_pure (p_move rfl) rfl ?_
      refine g_yes rfl rfl ?_
      refine g_pure (p_eql rfl rfl) rfl ?_
      refine g_yes rfl rfl ?_
      refine g_pure (p_eqlb (by rfl) rfl rfl) rfl ?_
      first | refine g_pure (p_pickt rfl rfl) rfl ?_ | refine g_pure (p_pickf rfl rfl) rfl ?_
      refine g_pure (p_move rfl) rfl ?_
      refine g_yes rfl rfl ?_
      refine g_call (Hin := []) (Hr := ?hr5) (R := ?rr5) rfl rfl rfl ?hin5 ?hc5 ?hk5
      case hin5 => repeat' (first | exact Cover.nil | exact Take.here | apply Cover.cons | apply Take.there)
      case hc5 => intro ρ' hρ hR; exact awake_ok
      rintro _ _ ⟨rfl, rfl⟩
      first | refine g_pure (p_pickt rfl rfl) rfl ?_ | refine g_pure (p_pickf rfl rfl) rfl ?_
      refine g_pure (p_assign rfl) rfl ?_
      refine g_nil ?_
      refine g_qt ?_
      refine g_ret ?_
      refine g_qt_ret ?_
      exact g_post (rs := [.tmp 4]) rfl (.tmp rfl .nil) rfl .nil
    · rw [e1, e2]
      dsimp only
      refine g_pure (p_move rfl) rfl ?_
      refine g_pure (p_extract rfl rfl) rfl ?_
      refine g_pure (p_extract rfl rfl) rfl ?_
      refine g_pure (p_assign rfl) rfl ?_
      refine g_pure (p_assign rfl) rfl ?_
      refine g_nil ?_
      refine g_qt ?_
      refine g_seq ?_
      refine g_seq ?_
      refine g_region ?_
      refine g_pure (p_move rfl) rfl ?_
      refine g_pure (p_neq rfl rfl) rfl ?_
      refine g_nil ?_
      refine g_qt ?_
      refine g_ift rfl ?_
      refine g_seq ?_
      refine g_region ?_
      refine g_pure (p_move rfl) rfl ?_
      refine g_pure (p_len (by rfl) rfl) rfl ?_
      refine g_pure (p_eqlT rfl rfl rfl) rfl ?_
      refine g_pure (p_move rfl) rfl ?_
      refine g_yes rfl rfl ?_
      refine g_pure (p_move rfl) rfl ?_
      refine g_yes rfl rfl ?_
      refine g_pure (p_eql rfl rfl) rfl ?_
      refine g_yes rfl rfl ?_
      refine g_pure (p_move rfl) rfl ?_
      refine g_yes rfl rfl ?_
      refine g_pure (p_eql rfl rfl) rfl ?_
      refine g_yes rfl rfl ?_
      refine g_pure (p_eqlb (by rfl) rfl rfl) rfl ?_
      first | refine g_pure (p_pickt rfl rfl) rfl ?_ | refine g_pure (p_pickf rfl rfl) rfl ?_
      refine g_pure (p_move rfl) rfl ?_
      refine g_yes rfl rfl ?_
      refine g_pure (p_move rfl) rfl ?_
      refine g_yes rfl rfl ?_
      refine g_pure (p_eql rfl rfl) rfl ?_
      refine g_yes rfl rfl ?_
      refine g_pure (p_move rfl) rfl ?_
      refine g_yes rfl rfl ?_
      refine g_pure (p_eql rfl rfl) rfl ?_
      refine g_yes rfl rfl ?_
      refine g_pure (p_eqlb (by rfl) rfl rfl) rfl ?_
      first | refine g_pure (p_pickt rfl rfl) rfl ?_ | refine g_pure (p_pickf rfl rfl) rfl ?_
      refine g_pure (p_move rfl) rfl ?_
      refine g_yes rfl rfl ?_
      refine g_call (Hin := []) (Hr := ?hr6) (R := ?rr6) rfl rfl rfl ?hin6 ?hc6 ?hk6
      case hin6 => repeat' (first | exact Cover.nil | exact Take.here | apply Cover.cons | apply Take.there)
      case hc6 => intro ρ' hρ hR; exact awake_ok
      rintro _ _ ⟨rfl, rfl⟩
      first | refine g_pure (p_pickt rfl rfl) rfl ?_ | refine g_pure (p_pickf rfl rfl) rfl ?_
      refine g_pure (p_assign rfl) rfl ?_
      refine g_nil ?_
      refine g_qt ?_
      refine g_ret ?_
      refine g_qt_ret ?_
      exact g_post (rs := [.tmp 4]) rfl (.tmp rfl .nil) rfl .nil
    · rw [e1, e2]
      obtain ⟨m, rfl⟩ : ∃ m : Nat, n = m := ⟨n.toNat, by omega⟩
      rw [Int.toNat_natCast] at ho hW hlen ⊢
      dsimp only
      refine g_freeze (A := OwnSl 3 1 x1 _ y1 _) (by repeat' (first | exact Take.here | apply Take.there)) ?_
      intro ρ1 hρ1 hLo
      have hL : RSl ρ1 1 x1 (orderP F m).length ((orderP F m).map Z.encI) := RSl.of_own hLo
      clear hLo
      have hF1 : EdR ρ1 a F := hF.mono hρ1
      generalize orderP F m = l at *
      refine g_pure (p_move rfl) rfl ?_
      refine g_pure (p_extract rfl rfl) rfl ?_
      refine g_pure (p_extract rfl rfl) rfl ?_
      refine g_pure (p_assign rfl) rfl ?_
      refine g_pure (p_assign rfl) rfl ?_
      refine g_nil ?_
      refine g_qt ?_
      refine g_seq ?_
      refine g_seq ?_
      refine g_region ?_
      refine g_pure (p_move rfl) rfl ?_
      refine g_pure (p_neq rfl rfl) rfl ?_
      refine g_nil ?_
      refine g_qt ?_
      refine g_iff rfl ?_
      refine g_skip ?_
      refine g_qt ?_
      refine g_seq ?_
      refine g_seq ?_
      refine g_region ?_
      refine g_pure (p_move rfl) rfl ?_
      refine g_pure (p_neqF rfl rfl rfl) rfl ?_
      refine g_pure (p_move rfl) rfl ?_
      refine g_yes rfl rfl ?_
      refine g_pure (p_move rfl) rfl ?_
      refine g_yes rfl rfl ?_
      refine g_pure (p_len (by rfl) rfl) rfl ?_
      refine g_yes rfl rfl ?_
      refine g_pure (p_move rfl) rfl ?_
      refine g_yes rfl rfl ?_
      refine g_pure (p_neqF rfl rfl (by omega)) rfl ?_
      first | refine g_pure (p_pickt rfl rfl) rfl ?_ | refine g_pure (p_pickf rfl rfl) rfl ?_
      refine g_nil ?_
      refine g_qt ?_
      refine g_iff rfl ?_
      refine g_skip ?_
      refine g_qt ?_
      refine g_seq ?_
      refine g_region ?_
      refine g_pure (p_move rfl) rfl ?_
      refine g_eff (e_make (by rfl) (by rfl) rfl rfl (by omega) (by first | omega | (dsimp only; omega)) (by omega)) rfl (fun _ _ => ?_)
      rintro ⟨b60, rfl, rfl⟩
      refine g_pure (p_assign rfl) rfl ?_
      refine g_nil ?_
      refine g_qt ?_
      refine g_seq ?_
      refine g_seq ?_
      refine g_region ?_
      refine g_pure (p_assign rfl) rfl ?_
      refine g_nil ?_
      refine g_qt ?_
      refine g_block ?_
      rw [Int.toNat_natCast]
      refine g_weak (B := Blk b60 (.cells (cellsG m (gAt l 0)).toArray 3 (0, 0))) (by repeat' (first | exact Take.here | apply Take.there)) (blk_eq (by rw [show gAt l 0 = fun _ => 0 from funext fun u => by unfold gAt; rw [List.take_zero, if_neg List.not_mem_nil]]; exact (cellsG_zero m).symm)) ?_
      refine g_loop (fun k : Nat => [(0, .int .i64 m), (1, .slice a F.length c), (4, .bool false), (5, .slice x1 l.length y1), (9, .slice (some ⟨b60, 0, none⟩) m m), (10, .int .i64 k)])
        (fun k => [Blk b60 (.cells (cellsG m (gAt l k)).toArray 3 (0, 0))]) (fun k => k ≤ l.length) (fun k => l.length - k) 0 (Nat.zero_le _) (by (repeat (first | exact trivial | refine ⟨by rfl, ?_⟩)); done) (by repeat' (first | exact Cover.nil | exact Take.here | apply Cover.cons | apply Take.there)) ?_
      rintro k hk
      refine g_seq ?_
      refine g_seq ?_
      refine g_region ?_
      refine g_pure (p_move rfl) rfl ?_
      refine g_pure (p_move rfl) rfl ?_
      refine g_pure (p_len (by rfl) rfl) rfl ?_
      refine g_pure (p_lss rfl rfl) rfl ?_
      refine g_nil ?_
      refine g_qt ?_
      refine g_ifd rfl (fun q => ?_) (fun q => ?_)
      · have hk' : k < l.length := by omega
        obtain ⟨b1, o1, c1, T1, z1, r1, r2, r3⟩ := rsl_at hL (by omega)
        have r3 := r3 k hk'
        have hrng := hW.rng _ (List.getElem_mem hk')
        obtain ⟨u, hu⟩ : ∃ u : Nat, l[k] = u := ⟨l[k].toNat, by omega⟩
        rw [hu] at r3 hrng
        have hnew := gAt_new hW.nd hk' hu
        have hset := gAt_set (m := m) hW.nd hk' hu
        have hum : u < m := by omega
        refine g_skip ?_
        refine g_qt ?_
        refine g_seq ?_
        refine g_block ?_
        refine g_seq ?_
        refine g_seq ?_
        refine g_region ?_
        refine g_pure (p_move rfl) rfl ?_
        refine g_pure (p_move rfl) rfl ?_
        refine g_pure (p_indexAddr rfl rfl (by omega) (fun _ => r1)) rfl ?_
        refine g_pure (p_load (by rfl) rfl (Has.ro r2) r3) rfl ?_
        refine g_pure (p_lss rfl rfl) rfl ?_
        refine g_pure (p_move rfl) rfl ?_
        refine g_splitd rfl rfl (fun g1 => ?_) (fun g1 => ?_)
        · exact absurd g1 (by omega)
        · refine g_yes rfl rfl ?_
          refine g_pure (p_move rfl) rfl ?_
          refine g_yes rfl rfl ?_
          refine g_pure (p_move rfl) rfl ?_
          refine g_yes rfl rfl ?_
          refine g_pure (p_indexAddr rfl rfl (by omega) (fun _ => r1)) rfl ?_
          refine g_yes rfl rfl ?_
          refine g_pure (p_load (by rfl) rfl (Has.ro r2) r3) rfl ?_
          refine g_yes rfl rfl ?_
          refine g_pure (p_move rfl) rfl ?_
          refine g_yes rfl rfl ?_
          refine g_pure (p_geq rfl rfl) rfl ?_
          first | refine g_pure (p_pickt rfl rfl) rfl ?_ | refine g_pure (p_pickf rfl rfl) rfl ?_
          refine g_pure (p_move rfl) rfl ?_
          refine g_splitd rfl rfl (fun g2 => ?_) (fun g2 => ?_)
          · exact absurd g2 (by omega)
          · refine g_yes rfl rfl ?_
            refine g_pure (p_move rfl) rfl ?_
            refine g_yes rfl rfl ?_
            refine g_pure (p_move rfl) rfl ?_
            refine g_yes rfl rfl ?_
            refine g_pure (p_move rfl) rfl ?_
            refine g_yes rfl rfl ?_
            refine g_pure (p_indexAddr rfl rfl (by omega) (fun _ => r1)) rfl ?_
            refine g_yes rfl rfl ?_
            refine g_pure (p_load (by rfl) rfl (Has.ro r2) r3) rfl ?_
            refine g_yes rfl rfl ?_
            refine g_pure (p_indexAddr rfl rfl (by omega) (fun _ => rfl)) rfl ?_
            refine g_yes rfl rfl ?_
            refine g_pure (p_load (by rfl) rfl (Has.own (by repeat' (first | exact Take.here | apply Take.there))) (cellsG_at' hum)) rfl ?_
            refine g_yes rfl rfl ?_
            refine g_pure (p_neqF rfl rfl (by omega)) rfl ?_
            first | refine g_pure (p_pickt rfl rfl) rfl ?_ | refine g_pure (p_pickf rfl rfl) rfl ?_
            refine g_nil ?_
            refine g_qt ?_
            refine g_iff rfl ?_
            refine g_skip ?_
            refine g_qt ?_
            refine g_region ?_
            refine g_pure (p_move rfl) rfl ?_
            refine g_pure (p_move rfl) rfl ?_
            refine g_pure (p_move rfl) rfl ?_
            refine g_pure (p_indexAddr rfl rfl (by omega) (fun _ => r1)) rfl ?_
            refine g_pure (p_load (by rfl) rfl (Has.ro r2) r3) rfl ?_
            refine g_pure (p_move rfl) rfl ?_
            first | refine g_pure (p_addi rfl rfl (by omega)) rfl ?_ | refine g_pure (p_add rfl rfl) rfl ?_
            refine g_pure (p_indexAddr rfl rfl (by omega) (fun _ => rfl)) rfl ?_
            refine g_eff0 (e_store1 (by rfl) rfl rfl rfl (by repeat' (first | exact Take.here | apply Take.there)) (by rw [cellsG_len, Int.toNat_natCast]; show 0 + u * 1 < m; omega)) (fun _ _ => ?_)
            rintro rfl
            refine g_nil ?_
            refine g_qb ?_
            refine g_qt ?_
            refine g_region ?_
            refine g_pure (p_move rfl) rfl ?_
            first | refine g_pure (p_addi rfl rfl (by omega)) rfl ?_ | refine g_pure (p_add rfl rfl) rfl ?_
            refine g_pure (p_assign rfl) rfl ?_
            refine g_nil ?_
            refine g_qn ?_
            refine g_weak (B := Blk b60 (.cells (cellsG m (gAt l (k + 1))).toArray 3 (0, 0))) (by repeat' (first | exact Take.here | apply Take.there)) (blk_eq hset) ?_
            exact g_next (k + 1) (by (repeat (first | exact trivial | refine ⟨by rfl, ?_⟩)); done) (by repeat' (first | exact Cover.nil | exact Take.here | apply Cover.cons | apply Take.there)) (by omega) (by omega)
      · have hke : k = l.length := by omega
        rw [hke]
        refine g_exit ?_
        refine g_qt_exit ?_
        refine g_qn_exit ?_
        refine g_qb_exit ?_
        refine g_qt ?_
        refine g_seq ?_
        refine g_seq ?_
        refine g_region ?_
        refine g_pure (p_assign rfl) rfl ?_
        refine g_nil ?_
        refine g_qt ?_
        refine g_block ?_
        refine g_loop (fun k : Nat => [(1, .slice a F.length c), (4, .bool false), (9, .slice (some ⟨b60, 0, none⟩) m m), (11, .int .i64 k)])
          (fun k => [Blk b60 (.cells (cellsG m (gAt l l.length)).toArray 3 (0, 0))]) (fun k => k ≤ F.length) (fun k => F.length - k) 0 (Nat.zero_le _) (by (repeat (first | exact trivial | refine ⟨by rfl, ?_⟩)); done) (by repeat' (first | exact Cover.nil | exact Take.here | apply Cover.cons | apply Take.there)) ?_
        rintro j hj
        refine g_seq ?_
        refine g_seq ?_
        refine g_region ?_
        refine g_pure (p_move rfl) rfl ?_
        refine g_pure (p_move rfl) rfl ?_
        refine g_pure (p_len (by rfl) rfl) rfl ?_
        refine g_pure (p_lss rfl rfl) rfl ?_
        refine g_nil ?_
        refine g_qt ?_
        refine g_ifd rfl (fun y => ?_) (fun y => ?_)
        · have hj' : j < F.length := by omega
          obtain ⟨be, oe, ce, Te, ze, i1, i2, i3⟩ := hF1.at (by omega)
          obtain ⟨-, i4, i5⟩ := i3 j hj'
          have hed := List.getElem_mem hj'
          have hin := ho _ hed
          have hlt := hW.edge ho hlen (u := F[j].1) (w := F[j].2) hed
          obtain ⟨u, hu⟩ : ∃ u : Nat, F[j].1 = u := ⟨F[j].1.toNat, by omega⟩
          obtain ⟨w, hw⟩ : ∃ w : Nat, F[j].2 = w := ⟨F[j].2.toNat, by omega⟩
          rw [hu] at i4 hlt hin
          rw [hw] at i5 hlt hin
          have hu2 := gAt_all (hW.all hlen u (by omega))
          have hw2 := gAt_all (hW.all hlen w (by omega))
          refine g_skip ?_
          refine g_qt ?_
          refine g_seq ?_
          refine g_block ?_
          refine g_seq ?_
          refine m_begin0 (.fl 0 0 (.fl 1 0 (.fl 2 0 (.fl 3 0 (.fl 4 0 (.fl 5 1 (.fl 6 0 (.fl 7 1 (.fl 8 0 (.fl 9 0 (.fl 10 0 (.fl 11 0 (.fl 12 0 (.fl 13 1 (.fl 14 0 (.fl 15 1 (.fl 16 0 .done))))))))))))))))) (by kernel_rfl) (by kernel_rfl) ?_
          refine m_float0 rfl (fun _ _ => p_move rfl) rfl ?_
          refine m_float0 rfl (fun _ _ => p_move rfl) rfl ?_
          refine m_float0 rfl (fun _ _ => p_move rfl) rfl ?_
          refine m_float0 rfl (fun _ _ => p_indexAddr rfl rfl (by omega) (fun _ => i1)) rfl ?_
          refine m_float0 rfl (fun _ _ => p_fieldAddr rfl) rfl ?_
          refine m_float rfl (p_load (by rfl) rfl (Has.ro i2) i4) rfl ?_
          refine m_float0 rfl (fun _ _ => p_indexAddr rfl rfl (by omega) (fun _ => rfl)) rfl ?_
          refine m_float rfl (p_load (by rfl) rfl (Has.own (by repeat' (first | exact Take.here | apply Take.there))) (cellsG_at' (by omega))) rfl ?_
          refine m_float0 rfl (fun _ _ => p_move rfl) rfl ?_
          refine m_float0 rfl (fun _ _ => p_move rfl) rfl ?_
          refine m_float0 rfl (fun _ _ => p_move rfl) rfl ?_
          refine m_float0 rfl (fun _ _ => p_indexAddr rfl rfl (by omega) (fun _ => i1)) rfl ?_
          refine m_float0 rfl (fun _ _ => p_fieldAddr rfl) rfl ?_
          refine m_float rfl (p_load (by rfl) rfl (Has.ro i2) i5) rfl ?_
          refine m_float0 rfl (fun _ _ => p_indexAddr rfl rfl (by omega) (fun _ => rfl)) rfl ?_
          refine m_float rfl (p_load (by rfl) rfl (Has.own (by repeat' (first | exact Take.here | apply Take.there))) (cellsG_at' (by omega))) rfl ?_
          refine m_float0 rfl (fun _ _ => p_geq rfl rfl) rfl ?_
          refine m_nil ?_
          refine g_qt ?_
          refine g_ifd rfl (fun v => ?_) (fun v => ?_)
          · exact absurd v (by omega)
          · refine g_skip ?_
            refine g_qb ?_
            refine g_qt ?_
            refine g_region ?_
            refine g_pure (p_move rfl) rfl ?_
            first | refine g_pure (p_addi rfl rfl (by omega)) rfl ?_ | refine g_pure (p_add rfl rfl) rfl ?_
            refine g_pure (p_assign rfl) rfl ?_
            refine g_nil ?_
            refine g_qn ?_
            exact g_next (j + 1) (by (repeat (first | exact trivial | refine ⟨by rfl, ?_⟩)); done) (by repeat' (first | exact Cover.nil | exact Take.here | apply Cover.cons | apply Take.there)) (by omega) (by omega)
        · refine g_exit ?_
          refine g_qt_exit ?_
          refine g_qn_exit ?_
          refine g_qb_exit ?_
          refine g_qt ?_
          refine g_seq ?_
          refine g_region ?_
          refine g_call (Hin := []) (Hr := ?hr7) (R := ?rr7) rfl rfl rfl ?hin7 ?hc7 ?hk7
          case hin7 => repeat' (first | exact Cover.nil | exact Take.here | apply Cover.cons | apply Take.there)
          case hc7 => intro ρ' hρ hR; exact awake_ok
          rintro _ _ ⟨rfl, rfl⟩
          refine g_pure (p_assign rfl) rfl ?_
          refine g_nil ?_
          refine g_qt ?_
          refine g_ret ?_
          refine g_thaw hρ1 ?_
          exact g_post (rs := [.tmp 4]) rfl (.tmp rfl .nil) rfl .nil
end Go.Proofs.Ytmefecnjliadaaa
