/- Chapter 4: what is reached, and the components, are those of the chapter. Conditions: none. -/
import Derived.Test.YtmefecnjliadaaaGh
namespace Go.Z.Gr
set_option maxRecDepth 8000
set_option linter.unusedVariables false
set_option linter.unusedSimpArgs false
set_option linter.unusedSectionVars false
open Go Go.Z Go.Z.Gra
theorem reachA_unique {n : Int} {E : Ed} {s e1 e2 : Int} {x1 x2 : List Bool} (h1 : reachA n E s x1 e1) (h2 : reachA n E s x2 e2) : x1 = x2 ∧ e1 = e2 := by
  unfold reachA at h1 h2
  by_cases h : validP n E [s] = true
  · rw [if_pos h] at h1 h2
    exact ⟨h1.2.unique h2.2, by rw [h1.1, h2.1]⟩
  · rw [if_neg h] at h1 h2
    exact ⟨by rw [h1.2, h2.2], by rw [h1.1, h2.1]⟩
theorem reachA_len {n : Int} {E : Ed} {s e1 : Int} {x1 : List Bool} (h1 : reachA n E s x1 e1) : x1.length ≤ 4096 := by
  unfold reachA at h1
  by_cases h : validP n E [s] = true
  · rw [if_pos h] at h1
    have hl := h1.2.1
    unfold validP at h
    rw [Bool.and_eq_true, Bool.and_eq_true] at h
    have := of_decide_eq_true h.1.1
    omega
  · rw [if_neg h] at h1
    rw [h1.2]; exact Nat.zero_le _
theorem validP_one {n : Int} {E : Ed} {s : Int} : validP n E [s] = (validP n E [] && decide (0 ≤ s ∧ s < n)) := by
  unfold validP inV
  simp
theorem rslb_at {ρ : Nat → Obj → Prop} {a : Option Addr} {l : List Bool} (h : RSl ρ 1 a l.length (l.map encB)) (h0 : 0 < l.length) :
    ∃ b off cs T fz, a = some ⟨b, off, none⟩ ∧ ρ b (.cells (cs : List Value).toArray T fz) ∧ ∀ j (hj : j < l.length), cs[off + (j : Int).toNat * 1]? = some (.bool l[j]) := by
  obtain ⟨_, b, off, cs, T, fz, h3⟩ := h
  obtain ⟨r1, r2, r3⟩ := h3 h0
  exact ⟨b, off, cs, T, fz, r1, r2, fun j hj => by rw [Int.toNat_natCast, Nat.mul_one]; exact r3 j _ (by rw [List.getElem?_map, List.getElem?_eq_getElem hj]; rfl)⟩
end Go.Z.Gr
namespace Go.Proofs.Ytmefecnjliadaaa
set_option maxRecDepth 8000
set_option linter.unusedVariables false
set_option linter.unusedSimpArgs false
set_option linter.unusedSectionVars false
open Go Go.Z Go.Z.Gr Go.Z.Gra
theorem rReach_ok {ρ : Nat → Obj → Prop} (n : Int) (a : Option Addr) (c : Nat) (E : Ed) (hE : EdR ρ a E) (hlE : E.length ≤ 1000000) (s : Int) :
    Con Try.prog ρ 17 #[.int .i64 n, .slice a E.length c, .int .i64 s] [] (fun r H => ∃ a' c' xs e, r = .tuple #[.slice a' xs.length c', .int .i64 e] ∧ H = [OwnSl 4 1 a' xs.length c' (xs.map encB)] ∧ reachA n E s xs e) := by
  have hvo := validP_one (n := n) (E := E) (s := s)
  have hbad : validP n E [s] = false → reachA n E s [] 2 := fun h => by unfold reachA; rw [if_neg (by rw [h]; decide)]; exact ⟨rfl, rfl⟩
  refine con_intro Try.func17 Try.call17 rfl Try.ntmps17 rfl (L := [(0, _), (1, _), (2, _)]) rfl fun w hh => ?_
  refine g_seq ?_
  refine g_region ?_
  refine g_pure (p_assign rfl) rfl ?_
  refine g_pure (p_assign rfl) rfl ?_
  refine g_nil ?_
  refine g_qt ?_
  refine g_seq ?_
  refine g_seq ?_
  refine g_region ?_
  refine g_pure (p_move rfl) rfl ?_
  refine g_pure (p_move rfl) rfl ?_
  refine g_call (Hin := []) (Hr := ?hr1) (R := ?rr1) rfl rfl rfl ?hin1 ?hc1 ?hk1
  case hin1 => repeat' (first | exact Cover.nil | exact Take.here | apply Cover.cons | apply Take.there)
  case hc1 => intro ρ' hρ hR; exact right_ok n a c E (hE.mono hρ) (by omega)
  rintro _ _ ⟨rfl, rfl⟩
  cases hv : validP n E [] with
  | false =>
    rw [hv, Bool.false_and] at hvo
    refine g_pure (p_not rfl) rfl ?_
    refine g_pure (p_move rfl) rfl ?_
    refine g_no rfl rfl rfl rfl ?_
    refine g_no rfl rfl rfl rfl ?_
    first | refine g_pure (p_pickt rfl rfl) rfl ?_ | refine g_pure (p_pickf rfl rfl) rfl ?_
    refine g_pure (p_move rfl) rfl ?_
    refine g_no rfl rfl rfl rfl ?_
    refine g_no rfl rfl rfl rfl ?_
    refine g_no rfl rfl rfl rfl ?_
    first | refine g_pure (p_pickt rfl rfl) rfl ?_ | refine g_pure (p_pickf rfl rfl) rfl ?_
    refine g_nil ?_
    refine g_qt ?_
    refine g_ift rfl ?_
    refine g_seq ?_
    refine g_region ?_
    refine g_pure (p_assign rfl) rfl ?_
    refine g_pure (p_assign rfl) rfl ?_
    refine g_nil ?_
    refine g_qt ?_
    refine g_ret ?_
    refine g_qt_ret ?_
    refine g_ownnil (e := 4) (size := 1) ?_
    exact g_post (rs := [.tmp 6, .tmp 7]) rfl (.tmp rfl (.tmp rfl .nil)) ⟨none, 0, [], 2, rfl, rfl, hbad hvo⟩ (by repeat' (first | exact Cover.nil | exact Take.here | apply Cover.cons | apply Take.there))
  | true =>
    rw [hv, Bool.true_and] at hvo
    have hn0 : 0 ≤ n ∧ n ≤ 4096 := by
      have := hv
      unfold validP at this
      rw [Bool.and_eq_true, Bool.and_eq_true] at this
      exact of_decide_eq_true this.1.1
    refine g_pure (p_not rfl) rfl ?_
    refine g_pure (p_move rfl) rfl ?_
    refine g_yes rfl rfl ?_
    refine g_pure (p_move rfl) rfl ?_
    refine g_yes rfl rfl ?_
    refine g_pure (p_lss rfl rfl) rfl ?_
    first | refine g_pure (p_pickt rfl rfl) rfl ?_ | refine g_pure (p_pickf rfl rfl) rfl ?_
    refine g_pure (p_move rfl) rfl ?_
    refine g_splitd rfl rfl (fun g1 => ?_) (fun g1 => ?_)
    · rw [decide_eq_false (by omega)] at hvo
      refine g_no rfl rfl rfl rfl ?_
      refine g_no rfl rfl rfl rfl ?_
      refine g_no rfl rfl rfl rfl ?_
      first | refine g_pure (p_pickt rfl rfl) rfl ?_ | refine g_pure (p_pickf rfl rfl) rfl ?_
      refine g_nil ?_
      refine g_qt ?_
      refine g_ift rfl ?_
      refine g_seq ?_
      refine g_region ?_
      refine g_pure (p_assign rfl) rfl ?_
      refine g_pure (p_assign rfl) rfl ?_
      refine g_nil ?_
      refine g_qt ?_
      refine g_ret ?_
      refine g_qt_ret ?_
      refine g_ownnil (e := 4) (size := 1) ?_
      exact g_post (rs := [.tmp 6, .tmp 7]) rfl (.tmp rfl (.tmp rfl .nil)) ⟨none, 0, [], 2, rfl, rfl, hbad hvo⟩ (by repeat' (first | exact Cover.nil | exact Take.here | apply Cover.cons | apply Take.there))
    · refine g_yes rfl rfl ?_
      refine g_pure (p_move rfl) rfl ?_
      refine g_yes rfl rfl ?_
      refine g_pure (p_move rfl) rfl ?_
      refine g_yes rfl rfl ?_
      refine g_pure (p_geq rfl rfl) rfl ?_
      first | refine g_pure (p_pickt rfl rfl) rfl ?_ | refine g_pure (p_pickf rfl rfl) rfl ?_
      refine g_nil ?_
      refine g_qt ?_
      refine g_ifd rfl (fun g2 => ?_) (fun g2 => ?_)
      · rw [decide_eq_false (by omega)] at hvo
        refine g_seq ?_
        refine g_region ?_
        refine g_pure (p_assign rfl) rfl ?_
        refine g_pure (p_assign rfl) rfl ?_
        refine g_nil ?_
        refine g_qt ?_
        refine g_ret ?_
        refine g_qt_ret ?_
        refine g_ownnil (e := 4) (size := 1) ?_
        exact g_post (rs := [.tmp 6, .tmp 7]) rfl (.tmp rfl (.tmp rfl .nil)) ⟨none, 0, [], 2, rfl, rfl, hbad hvo⟩ (by repeat' (first | exact Cover.nil | exact Take.here | apply Cover.cons | apply Take.there))
      · rw [decide_eq_true (by omega)] at hvo
        obtain ⟨m, rfl⟩ : ∃ m : Nat, n = m := ⟨n.toNat, by omega⟩
        obtain ⟨hm, ho⟩ := valid_edok hv
        refine g_skip ?_
        refine g_qt ?_
        refine g_seq ?_
        refine g_region ?_
        refine g_pure (p_move rfl) rfl ?_
        refine g_pure (p_move rfl) rfl ?_
        refine g_call (Hin := []) (Hr := ?hr2) (R := ?rr2) rfl rfl rfl ?hin2 ?hc2 ?hk2
        case hin2 => repeat' (first | exact Cover.nil | exact Take.here | apply Cover.cons | apply Take.there)
        case hc2 => intro ρ' hρ hR; exact next_ok m a c E (hE.mono hρ) hlE hm ho
        rintro _ _ ⟨na, nc, rfl, rfl⟩
        refine g_freeze (A := Own2 _ _ na nc _) (by repeat' (first | exact Take.here | apply Take.there)) ?_
        intro ρ1 hρ1 hNo
        have hN : NbR ρ1 na m (fun v => tosP E v) := Own2.ro hNo
        clear hNo
        refine g_pure (p_move rfl) rfl ?_
        refine g_call (Hin := []) (Hr := ?hr3) (R := ?rr3) rfl rfl rfl ?hin3 ?hc3 ?hk3
        case hin3 => repeat' (first | exact Cover.nil | exact Take.here | apply Cover.cons | apply Take.there)
        case hc3 => intro ρ' hρ hR; exact rreach_ok m hm E ho hlE na nc (hN.mono hρ) s (by omega)
        rintro _ _ ⟨ra, rc, out, rfl, rfl, hR⟩
        have hol := hR.1
        refine g_pure (p_assign rfl) rfl ?_
        refine g_pure (p_assign rfl) rfl ?_
        refine g_nil ?_
        refine g_qt ?_
        refine g_ret ?_
        refine g_thaw hρ1 ?_
        exact g_post (rs := [.tmp 6, .tmp 7]) rfl (.tmp rfl (.tmp rfl .nil)) ⟨ra, rc, out, 0, by rw [hol]; rfl, by rw [hol], by unfold reachA; rw [if_pos hvo]; exact ⟨rfl, hR⟩⟩ (by repeat' (first | exact Cover.nil | exact Take.here | apply Cover.cons | apply Take.there))
theorem gparts_ok {ρ : Nat → Obj → Prop} (n : Int) (a : Option Addr) (c : Nat) (E : Ed) (hE : RSl ρ 2 a E.length (E.flatMap fun e => [Z.encI e.1, Z.encI e.2])) (hc : E.length ≤ c) (hm : c ≤ maxLen) (s : Int) :
    Con Try.prog ρ 5 #[.int .i64 n, .slice a E.length c, .int .i64 s] [] (fun v _ => v = .bool true) := by
  have hE : EdR ρ a E := hE
  have hm' : c ≤ 9223372036854775807 := hm
  clear hm
  refine con_intro Try.func5 Try.call5 rfl Try.ntmps5 rfl (L := [(0, _), (1, _), (2, _)]) rfl fun w hh => ?_
  refine g_seq ?_
  refine g_region ?_
  refine g_pure (p_assign rfl) rfl ?_
  refine g_nil ?_
  refine g_qt ?_
  refine g_seq ?_
  refine g_region ?_
  refine g_pure (p_move rfl) rfl ?_
  refine g_call (Hin := []) (Hr := ?hr4) (R := ?rr4) rfl rfl rfl ?hin4 ?hc4 ?hk4
  case hin4 => repeat' (first | exact Cover.nil | exact Take.here | apply Cover.cons | apply Take.there)
  case hc4 => intro ρ' hρ hR; exact few_ok a c E (hE.mono hρ) hc hm'
  rintro _ _ ⟨rfl, rfl⟩
  have hF : EdR ρ a (E.take 400) := hE.take 400
  have hlF : (E.take 400).length ≤ 400 := by rw [List.length_take]; omega
  clear hE hc
  generalize E.take 400 = F at *
  obtain ⟨k3, k4⟩ := parts_rows (n := n) (E := F)
  refine g_pure (p_assign rfl) rfl ?_
  refine g_nil ?_
  refine g_qt ?_
  refine g_seq ?_
  refine g_seq ?_
  refine g_region ?_
  refine g_pure (p_move rfl) rfl ?_
  refine g_pure (p_gtr rfl rfl) rfl ?_
  refine g_pure (p_move rfl) rfl ?_
  refine g_splitd rfl rfl (fun g1 => ?_) (fun g1 => ?_)
  · refine g_yes rfl rfl ?_
    refine g_pure (p_move rfl) rfl ?_
    refine g_yes rfl rfl ?_
    refine g_pure (p_leq rfl rfl) rfl ?_
    first | refine g_pure (p_pickt rfl rfl) rfl ?_ | refine g_pure (p_pickf rfl rfl) rfl ?_
    refine g_nil ?_
    refine g_qt ?_
    refine g_ifd rfl (fun g2 => ?_) (fun g2 => ?_)
    · refine g_seq ?_
      refine g_region ?_
      refine g_call (Hin := []) (Hr := ?hr5) (R := ?rr5) rfl rfl rfl ?hin5 ?hc5 ?hk5
      case hin5 => repeat' (first | exact Cover.nil | exact Take.here | apply Cover.cons | apply Take.there)
      case hc5 => intro ρ' hρ hR; exact awake_ok
      rintro _ _ ⟨rfl, rfl⟩
      refine g_pure (p_assign rfl) rfl ?_
      refine g_nil ?_
      refine g_qt ?_
      refine g_ret ?_
      refine g_qt_ret ?_
      exact g_post (rs := [.tmp 6]) rfl (.tmp rfl .nil) rfl .nil
    · refine g_skip ?_
      refine g_qt ?_
      refine g_seq ?_
      refine g_region ?_
      refine g_pure (p_move rfl) rfl ?_
      refine g_pure (p_move rfl) rfl ?_
      refine g_pure (p_move rfl) rfl ?_
      refine g_call (Hin := []) (Hr := ?hr6) (R := ?rr6) rfl rfl rfl ?hin6 ?hc6 ?hk6
      case hin6 => repeat' (first | exact Cover.nil | exact Take.here | apply Cover.cons | apply Take.there)
      case hc6 => intro ρ' hρ hR; exact reach_ok n a c F (hF.mono hρ) (by omega) s
      rintro _ _ ⟨x1, y1, xs, e1, rfl, rfl, hX1⟩
      refine g_pure (p_move rfl) rfl ?_
      refine g_pure (p_extract rfl rfl) rfl ?_
      refine g_pure (p_extract rfl rfl) rfl ?_
      refine g_pure (p_assign rfl) rfl ?_
      refine g_pure (p_assign rfl) rfl ?_
      refine g_nil ?_
      refine g_qt ?_
      refine g_seq ?_
      refine g_region ?_
      refine g_pure (p_move rfl) rfl ?_
      refine g_pure (p_move rfl) rfl ?_
      refine g_pure (p_move rfl) rfl ?_
      refine g_call (Hin := []) (Hr := ?hr7) (R := ?rr7) rfl rfl rfl ?hin7 ?hc7 ?hk7
      case hin7 => repeat' (first | exact Cover.nil | exact Take.here | apply Cover.cons | apply Take.there)
      case hc7 => intro ρ' hρ hR; exact rReach_ok n a c F (hF.mono hρ) (by omega) s
      rintro _ _ ⟨x2, y2, xs2, e2, rfl, rfl, hX2⟩
      obtain ⟨rfl, rfl⟩ := reachA_unique hX1 hX2
      have hxl := reachA_len hX1
      refine g_pure (p_move rfl) rfl ?_
      refine g_pure (p_extract rfl rfl) rfl ?_
      refine g_pure (p_extract rfl rfl) rfl ?_
      refine g_pure (p_assign rfl) rfl ?_
      refine g_pure (p_assign rfl) rfl ?_
      refine g_nil ?_
      refine g_qt ?_
      refine g_seq ?_
      refine g_region ?_
      refine g_pure (p_move rfl) rfl ?_
      refine g_pure (p_move rfl) rfl ?_
      refine g_call (Hin := []) (Hr := ?hr8) (R := ?rr8) rfl rfl rfl ?hin8 ?hc8 ?hk8
      case hin8 => repeat' (first | exact Cover.nil | exact Take.here | apply Cover.cons | apply Take.there)
      case hc8 => intro ρ' hρ hR; exact parts_ok n a c F (hF.mono hρ) (by omega)
      rintro _ _ ⟨x5, y5, rfl, rfl⟩
      refine g_pure (p_move rfl) rfl ?_
      refine g_pure (p_extract rfl rfl) rfl ?_
      refine g_pure (p_extract rfl rfl) rfl ?_
      refine g_pure (p_assign rfl) rfl ?_
      refine g_pure (p_assign rfl) rfl ?_
      refine g_nil ?_
      refine g_qt ?_
      refine g_seq ?_
      refine g_region ?_
      refine g_pure (p_move rfl) rfl ?_
      refine g_pure (p_move rfl) rfl ?_
      refine g_call (Hin := []) (Hr := ?hr9) (R := ?rr9) rfl rfl rfl ?hin9 ?hc9 ?hk9
      case hin9 => repeat' (first | exact Cover.nil | exact Take.here | apply Cover.cons | apply Take.there)
      case hc9 => intro ρ' hρ hR; exact rparts_ok n a c F (hF.mono hρ) (by omega)
      rintro _ _ ⟨x6, y6, rfl, rfl⟩
      refine g_freeze (A := Own2 _ _ x6 y6 _) (by repeat' (first | exact Take.here | apply Take.there)) ?_
      intro ρ2 hρ2 hP1
      have hP1 : LsR ρ2 x6 (partsA n F).1 := Own2.ro hP1
      refine g_freeze (A := Own2 _ _ x5 y5 _) (by repeat' (first | exact Take.here | apply Take.there)) ?_
      intro ρ3 hρ3 hP2
      have hP2 : LsR ρ3 x5 (partsA n F).1 := Own2.ro hP2
      refine g_freeze (A := OwnSl 4 1 x1 _ y1 _) (by repeat' (first | exact Take.here | apply Take.there)) ?_
      intro ρ4 hρ4 hB1
      have hB1 : RSl ρ4 1 x1 xs.length (xs.map encB) := RSl.of_own hB1
      refine g_freeze (A := OwnSl 4 1 x2 _ y2 _) (by repeat' (first | exact Take.here | apply Take.there)) ?_
      intro ρ5 hρ5 hB2
      have hB2 : RSl ρ5 1 x2 xs.length (xs.map encB) := RSl.of_own hB2
      have hB1 := hB1.mono hρ5
      have hP1 : LsR ρ5 x6 (partsA n F).1 := hP1.mono fun b o h => hρ5 _ _ (hρ4 _ _ (hρ3 _ _ h))
      have hP2 : LsR ρ5 x5 (partsA n F).1 := hP2.mono fun b o h => hρ5 _ _ (hρ4 _ _ h)
      refine g_pure (p_move rfl) rfl ?_
      refine g_pure (p_extract rfl rfl) rfl ?_
      refine g_pure (p_extract rfl rfl) rfl ?_
      refine g_pure (p_assign rfl) rfl ?_
      refine g_pure (p_assign rfl) rfl ?_
      refine g_nil ?_
      refine g_qt ?_
      refine g_seq ?_
      refine g_seq ?_
      refine g_region ?_
      refine g_pure (p_move rfl) rfl ?_
      refine g_pure (p_move rfl) rfl ?_
      refine g_pure (p_neqF rfl rfl rfl) rfl ?_
      refine g_pure (p_move rfl) rfl ?_
      refine g_yes rfl rfl ?_
      refine g_pure (p_move rfl) rfl ?_
      refine g_yes rfl rfl ?_
      refine g_pure (p_move rfl) rfl ?_
      refine g_yes rfl rfl ?_
      refine g_pure (p_neqF rfl rfl rfl) rfl ?_
      first | refine g_pure (p_pickt rfl rfl) rfl ?_ | refine g_pure (p_pickf rfl rfl) rfl ?_
      refine g_pure (p_move rfl) rfl ?_
      refine g_yes rfl rfl ?_
      refine g_pure (p_move rfl) rfl ?_
      refine g_yes rfl rfl ?_
      refine g_pure (p_len (by rfl) rfl) rfl ?_
      refine g_yes rfl rfl ?_
      refine g_pure (p_move rfl) rfl ?_
      refine g_yes rfl rfl ?_
      refine g_pure (p_len (by rfl) rfl) rfl ?_
      refine g_yes rfl rfl ?_
      refine g_pure (p_neqF rfl rfl rfl) rfl ?_
      first | refine g_pure (p_pickt rfl rfl) rfl ?_ | refine g_pure (p_pickf rfl rfl) rfl ?_
      refine g_pure (p_move rfl) rfl ?_
      refine g_yes rfl rfl ?_
      refine g_pure (p_move rfl) rfl ?_
      refine g_yes rfl rfl ?_
      refine g_pure (p_move rfl) rfl ?_
      refine g_yes rfl rfl ?_
      refine g_call (Hin := []) (Hr := ?hr10) (R := ?rr10) rfl rfl rfl ?hin10 ?hc10 ?hk10
      case hin10 => repeat' (first | exact Cover.nil | exact Take.here | apply Cover.cons | apply Take.there)
      case hc10 => intro ρ' hρ hR; exact listsT_ok x5 x6 y5 y6 _ _ (hP2.mono hρ) (hP1.mono hρ) (by omega) (fun l hl => by have := k4 l hl; omega) rfl
      rintro _ _ ⟨rfl, rfl⟩
      refine g_yes rfl rfl ?_
      refine g_pure (p_not rfl) rfl ?_
      first | refine g_pure (p_pickt rfl rfl) rfl ?_ | refine g_pure (p_pickf rfl rfl) rfl ?_
      refine g_nil ?_
      refine g_qt ?_
      refine g_iff rfl ?_
      refine g_skip ?_
      refine g_qt ?_
      refine g_seq ?_
      refine g_seq ?_
      refine g_region ?_
      refine g_pure (p_assign rfl) rfl ?_
      refine g_nil ?_
      refine g_qt ?_
      refine g_block ?_
      refine g_loop (fun i : Nat => [(7, .slice x1 xs.length y1), (9, .slice x2 xs.length y2), (15, .int .i64 i)]) (fun _ => []) (fun i => i ≤ xs.length) (fun i => xs.length - i) 0 (Nat.zero_le _) (by (repeat (first | exact trivial | refine ⟨by rfl, ?_⟩)); done) .nil ?_
      rintro i hi
      refine g_seq ?_
      refine g_seq ?_
      refine g_region ?_
      refine g_pure (p_move rfl) rfl ?_
      refine g_pure (p_move rfl) rfl ?_
      refine g_pure (p_len (by rfl) rfl) rfl ?_
      refine g_pure (p_lss rfl rfl) rfl ?_
      refine g_nil ?_
      refine g_qt ?_
      refine g_ifd rfl (fun q => ?_) (fun q => ?_)
      · have hi' : i < xs.length := by omega
        obtain ⟨b1, o1, c1, T1, z1, r1, r2, r3⟩ := rslb_at hB1 (by omega)
        obtain ⟨b2, o2, c2, T2, z2, s1, s2, s3⟩ := rslb_at hB2 (by omega)
        have r3 := r3 i hi'
        have s3 := s3 i hi'
        refine g_skip ?_
        refine g_qt ?_
        refine g_seq ?_
        refine g_block ?_
        refine g_seq ?_
        refine m_begin0 (.fl 0 0 (.fl 1 0 (.fl 2 0 (.fl 3 1 (.fl 4 0 (.fl 5 0 (.fl 6 0 (.fl 7 1 (.fl 8 0 .done))))))))) (by kernel_rfl) (by kernel_rfl) ?_
        refine m_float0 rfl (fun _ _ => p_move rfl) rfl ?_
        refine m_float0 rfl (fun _ _ => p_move rfl) rfl ?_
        refine m_float0 rfl (fun _ _ => p_indexAddr rfl rfl (by omega) (fun _ => r1)) rfl ?_
        refine m_float rfl (p_load (by rfl) rfl (Has.ro r2) r3) rfl ?_
        refine m_float0 rfl (fun _ _ => p_move rfl) rfl ?_
        refine m_float0 rfl (fun _ _ => p_move rfl) rfl ?_
        refine m_float0 rfl (fun _ _ => p_indexAddr rfl rfl (by omega) (fun _ => s1)) rfl ?_
        refine m_float rfl (p_load (by rfl) rfl (Has.ro s2) s3) rfl ?_
        refine m_float0 rfl (fun _ _ => p_neqbF (by rfl) rfl rfl rfl) rfl ?_
        refine m_nil ?_
        refine g_qt ?_
        refine g_iff rfl ?_
        refine g_skip ?_
        refine g_qb ?_
        refine g_qt ?_
        refine g_region ?_
        refine g_pure (p_move rfl) rfl ?_
        first | refine g_pure (p_addi rfl rfl (by omega)) rfl ?_ | refine g_pure (p_add rfl rfl) rfl ?_
        refine g_pure (p_assign rfl) rfl ?_
        refine g_nil ?_
        refine g_qn ?_
        exact g_next (i + 1) (by (repeat (first | exact trivial | refine ⟨by rfl, ?_⟩)); done) .nil (by omega) (by omega)
      · refine g_exit ?_
        refine g_qt_exit ?_
        refine g_qn_exit ?_
        refine g_qb_exit ?_
        refine g_qt ?_
        refine g_seq ?_
        refine g_region ?_
        refine g_call (Hin := []) (Hr := ?hr11) (R := ?rr11) rfl rfl rfl ?hin11 ?hc11 ?hk11
        case hin11 => repeat' (first | exact Cover.nil | exact Take.here | apply Cover.cons | apply Take.there)
        case hc11 => intro ρ' hρ hR; exact awake_ok
        rintro _ _ ⟨rfl, rfl⟩
        refine g_pure (p_assign rfl) rfl ?_
        refine g_nil ?_
        refine g_qt ?_
        refine g_ret ?_
        refine g_thaw hρ5 ?_
        refine g_thaw hρ4 ?_
        refine g_thaw hρ3 ?_
        refine g_thaw hρ2 ?_
        exact g_post (rs := [.tmp 6]) rfl (.tmp rfl .nil) rfl .nil
  · refine g_no rfl rfl rfl rfl ?_
    refine g_no rfl rfl rfl rfl ?_
    first | refine g_pure (p_pickt rfl rfl) rfl ?_ | refine g_pure (p_pickf rfl rfl) rfl ?_
    refine g_nil ?_
    refine g_qt ?_
    refine g_iff rfl ?_
    refine g_skip ?_
    refine g_qt ?_
    refine g_seq ?_
    refine g_region ?_
    refine g_pure (p_move rfl) rfl ?_
    refine g_pure (p_move rfl) rfl ?_
    refine g_pure (p_move rfl) rfl ?_
    refine g_call (Hin := []) (Hr := ?hr12) (R := ?rr12) rfl rfl rfl ?hin12 ?hc12 ?hk12
    case hin12 => repeat' (first | exact Cover.nil | exact Take.here | apply Cover.cons | apply Take.there)
    case hc12 => intro ρ' hρ hR; exact reach_ok n a c F (hF.mono hρ) (by omega) s
    rintro _ _ ⟨x1, y1, xs, e1, rfl, rfl, hX1⟩
    refine g_pure (p_move rfl) rfl ?_
    refine g_pure (p_extract rfl rfl) rfl ?_
    refine g_pure (p_extract rfl rfl) rfl ?_
    refine g_pure (p_assign rfl) rfl ?_
    refine g_pure (p_assign rfl) rfl ?_
    refine g_nil ?_
    refine g_qt ?_
    refine g_seq ?_
    refine g_region ?_
    refine g_pure (p_move rfl) rfl ?_
    refine g_pure (p_move rfl) rfl ?_
    refine g_pure (p_move rfl) rfl ?_
    refine g_call (Hin := []) (Hr := ?hr13) (R := ?rr13) rfl rfl rfl ?hin13 ?hc13 ?hk13
    case hin13 => repeat' (first | exact Cover.nil | exact Take.here | apply Cover.cons | apply Take.there)
    case hc13 => intro ρ' hρ hR; exact rReach_ok n a c F (hF.mono hρ) (by omega) s
    rintro _ _ ⟨x2, y2, xs2, e2, rfl, rfl, hX2⟩
    obtain ⟨rfl, rfl⟩ := reachA_unique hX1 hX2
    have hxl := reachA_len hX1
    refine g_pure (p_move rfl) rfl ?_
    refine g_pure (p_extract rfl rfl) rfl ?_
    refine g_pure (p_extract rfl rfl) rfl ?_
    refine g_pure (p_assign rfl) rfl ?_
    refine g_pure (p_assign rfl) rfl ?_
    refine g_nil ?_
    refine g_qt ?_
    refine g_seq ?_
    refine g_region ?_
    refine g_pure (p_move rfl) rfl ?_
    refine g_pure (p_move rfl) rfl ?_
    refine g_call (Hin := []) (Hr := ?hr14) (R := ?rr14) rfl rfl rfl ?hin14 ?hc14 ?hk14
    case hin14 => repeat' (first | exact Cover.nil | exact Take.here | apply Cover.cons | apply Take.there)
    case hc14 => intro ρ' hρ hR; exact parts_ok n a c F (hF.mono hρ) (by omega)
    rintro _ _ ⟨x5, y5, rfl, rfl⟩
    refine g_pure (p_move rfl) rfl ?_
    refine g_pure (p_extract rfl rfl) rfl ?_
    refine g_pure (p_extract rfl rfl) rfl ?_
    refine g_pure (p_assign rfl) rfl ?_
    refine g_pure (p_assign rfl) rfl ?_
    refine g_nil ?_
    refine g_qt ?_
    refine g_seq ?_
    refine g_region ?_
    refine g_pure (p_move rfl) rfl ?_
    refine g_pure (p_move rfl) rfl ?_
    refine g_call (Hin := []) (Hr := ?hr15) (R := ?rr15) rfl rfl rfl ?hin15 ?hc15 ?hk15
    case hin15 => repeat' (first | exact Cover.nil | exact Take.here | apply Cover.cons | apply Take.there)
    case hc15 => intro ρ' hρ hR; exact rparts_ok n a c F (hF.mono hρ) (by omega)
    rintro _ _ ⟨x6, y6, rfl, rfl⟩
    refine g_freeze (A := Own2 _ _ x6 y6 _) (by repeat' (first | exact Take.here | apply Take.there)) ?_
    intro ρ2 hρ2 hP1
    have hP1 : LsR ρ2 x6 (partsA n F).1 := Own2.ro hP1
    refine g_freeze (A := Own2 _ _ x5 y5 _) (by repeat' (first | exact Take.here | apply Take.there)) ?_
    intro ρ3 hρ3 hP2
    have hP2 : LsR ρ3 x5 (partsA n F).1 := Own2.ro hP2
    refine g_freeze (A := OwnSl 4 1 x1 _ y1 _) (by repeat' (first | exact Take.here | apply Take.there)) ?_
    intro ρ4 hρ4 hB1
    have hB1 : RSl ρ4 1 x1 xs.length (xs.map encB) := RSl.of_own hB1
    refine g_freeze (A := OwnSl 4 1 x2 _ y2 _) (by repeat' (first | exact Take.here | apply Take.there)) ?_
    intro ρ5 hρ5 hB2
    have hB2 : RSl ρ5 1 x2 xs.length (xs.map encB) := RSl.of_own hB2
    have hB1 := hB1.mono hρ5
    have hP1 : LsR ρ5 x6 (partsA n F).1 := hP1.mono fun b o h => hρ5 _ _ (hρ4 _ _ (hρ3 _ _ h))
    have hP2 : LsR ρ5 x5 (partsA n F).1 := hP2.mono fun b o h => hρ5 _ _ (hρ4 _ _ h)
    refine g_pure (p_move rfl) rfl ?_
    refine g_pure (p_extract rfl rfl) rfl ?_
    refine g_pure (p_extract rfl rfl) rfl ?_
    refine g_pure (p_assign rfl) rfl ?_
    refine g_pure (p_assign rfl) rfl ?_
    refine g_nil ?_
    refine g_qt ?_
    refine g_seq ?_
    refine g_seq ?_
    refine g_region ?_
    refine g_pure (p_move rfl) rfl ?_
    refine g_pure (p_move rfl) rfl ?_
    refine g_pure (p_neqF rfl rfl rfl) rfl ?_
    refine g_pure (p_move rfl) rfl ?_
    refine g_yes rfl rfl ?_
    refine g_pure (p_move rfl) rfl ?_
    refine g_yes rfl rfl ?_
    refine g_pure (p_move rfl) rfl ?_
    refine g_yes rfl rfl ?_
    refine g_pure (p_neqF rfl rfl rfl) rfl ?_
    first | refine g_pure (p_pickt rfl rfl) rfl ?_ | refine g_pure (p_pickf rfl rfl) rfl ?_
    refine g_pure (p_move rfl) rfl ?_
    refine g_yes rfl rfl ?_
    refine g_pure (p_move rfl) rfl ?_
    refine g_yes rfl rfl ?_
    refine g_pure (p_len (by rfl) rfl) rfl ?_
    refine g_yes rfl rfl ?_
    refine g_pure (p_move rfl) rfl ?_
    refine g_yes rfl rfl ?_
    refine g_pure (p_len (by rfl) rfl) rfl ?_
    refine g_yes rfl rfl ?_
    refine g_pure (p_neqF rfl rfl rfl) rfl ?_
    first | refine g_pure (p_pickt rfl rfl) rfl ?_ | refine g_pure (p_pickf rfl rfl) rfl ?_
    refine g_pure (p_move rfl) rfl ?_
    refine g_yes rfl rfl ?_
    refine g_pure (p_move rfl) rfl ?_
    refine g_yes rfl rfl ?_
    refine g_pure (p_move rfl) rfl ?_
    refine g_yes rfl rfl ?_
    refine g_call (Hin := []) (Hr := ?hr16) (R := ?rr16) rfl rfl rfl ?hin16 ?hc16 ?hk16
    case hin16 => repeat' (first | exact Cover.nil | exact Take.here | apply Cover.cons | apply Take.there)
    case hc16 => intro ρ' hρ hR; exact listsT_ok x5 x6 y5 y6 _ _ (hP2.mono hρ) (hP1.mono hρ) (by omega) (fun l hl => by have := k4 l hl; omega) rfl
    rintro _ _ ⟨rfl, rfl⟩
    refine g_yes rfl rfl ?_
    refine g_pure (p_not rfl) rfl ?_
    first | refine g_pure (p_pickt rfl rfl) rfl ?_ | refine g_pure (p_pickf rfl rfl) rfl ?_
    refine g_nil ?_
    refine g_qt ?_
    refine g_iff rfl ?_
    refine g_skip ?_
    refine g_qt ?_
    refine g_seq ?_
    refine g_seq ?_
    refine g_region ?_
    refine g_pure (p_assign rfl) rfl ?_
    refine g_nil ?_
    refine g_qt ?_
    refine g_block ?_
    refine g_loop (fun i : Nat => [(7, .slice x1 xs.length y1), (9, .slice x2 xs.length y2), (15, .int .i64 i)]) (fun _ => []) (fun i => i ≤ xs.length) (fun i => xs.length - i) 0 (Nat.zero_le _) (by (repeat (first | exact trivial | refine ⟨by rfl, ?_⟩)); done) .nil ?_
    rintro i hi
    refine g_seq ?_
    refine g_seq ?_
    refine g_region ?_
    refine g_pure (p_move rfl) rfl ?_
    refine g_pure (p_move rfl) rfl ?_
    refine g_pure (p_len (by rfl) rfl) rfl ?_
    refine g_pure (p_lss rfl rfl) rfl ?_
    refine g_nil ?_
    refine g_qt ?_
    refine g_ifd rfl (fun q => ?_) (fun q => ?_)
    · have hi' : i < xs.length := by omega
      obtain ⟨b1, o1, c1, T1, z1, r1, r2, r3⟩ := rslb_at hB1 (by omega)
      obtain ⟨b2, o2, c2, T2, z2, s1, s2, s3⟩ := rslb_at hB2 (by omega)
      have r3 := r3 i hi'
      have s3 := s3 i hi'
      refine g_skip ?_
      refine g_qt ?_
      refine g_seq ?_
      refine g_block ?_
      refine g_seq ?_
      refine m_begin0 (.fl 0 0 (.fl 1 0 (.fl 2 0 (.fl 3 1 (.fl 4 0 (.fl 5 0 (.fl 6 0 (.fl 7 1 (.fl 8 0 .done))))))))) (by kernel_rfl) (by kernel_rfl) ?_
      refine m_float0 rfl (fun _ _ => p_move rfl) rfl ?_
      refine m_float0 rfl (fun _ _ => p_move rfl) rfl ?_
      refine m_float0 rfl (fun _ _ => p_indexAddr rfl rfl (by omega) (fun _ => r1)) rfl ?_
      refine m_float rfl (p_load (by rfl) rfl (Has.ro r2) r3) rfl ?_
      refine m_float0 rfl (fun _ _ => p_move rfl) rfl ?_
      refine m_float0 rfl (fun _ _ => p_move rfl) rfl ?_
      refine m_float0 rfl (fun _ _ => p_indexAddr rfl rfl (by omega) (fun _ => s1)) rfl ?_
      refine m_float rfl (p_load (by rfl) rfl (Has.ro s2) s3) rfl ?_
      refine m_float0 rfl (fun _ _ => p_neqbF (by rfl) rfl rfl rfl) rfl ?_
      refine m_nil ?_
      refine g_qt ?_
      refine g_iff rfl ?_
      refine g_skip ?_
      refine g_qb ?_
      refine g_qt ?_
      refine g_region ?_
      refine g_pure (p_move rfl) rfl ?_
      first | refine g_pure (p_addi rfl rfl (by omega)) rfl ?_ | refine g_pure (p_add rfl rfl) rfl ?_
      refine g_pure (p_assign rfl) rfl ?_
      refine g_nil ?_
      refine g_qn ?_
      exact g_next (i + 1) (by (repeat (first | exact trivial | refine ⟨by rfl, ?_⟩)); done) .nil (by omega) (by omega)
    · refine g_exit ?_
      refine g_qt_exit ?_
      refine g_qn_exit ?_
      refine g_qb_exit ?_
      refine g_qt ?_
      refine g_seq ?_
      refine g_region ?_
      refine g_call (Hin := []) (Hr := ?hr17) (R := ?rr17) rfl rfl rfl ?hin17 ?hc17 ?hk17
      case hin17 => repeat' (first | exact Cover.nil | exact Take.here | apply Cover.cons | apply Take.there)
      case hc17 => intro ρ' hρ hR; exact awake_ok
      rintro _ _ ⟨rfl, rfl⟩
      refine g_pure (p_assign rfl) rfl ?_
      refine g_nil ?_
      refine g_qt ?_
      refine g_ret ?_
      refine g_thaw hρ5 ?_
      refine g_thaw hρ4 ?_
      refine g_thaw hρ3 ?_
      refine g_thaw hρ2 ?_
      exact g_post (rs := [.tmp 6]) rfl (.tmp rfl .nil) rfl .nil
end Go.Proofs.Ytmefecnjliadaaa
