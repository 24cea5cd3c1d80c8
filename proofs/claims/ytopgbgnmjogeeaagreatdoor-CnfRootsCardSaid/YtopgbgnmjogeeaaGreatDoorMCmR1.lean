/- Own texts, put together: Ri Rc Rj Rr Rn Ro Rp. Conditions: as told at each. -/
import Derived.Test.YtopgbgnmjogeeaaGreatDoorMCmR0
import Derived.Test.YtopgbgnmjogeeaaGreatDoorMCmV0
import Derived.Test.YtopgbgnmjogeeaaGreatDoorMCmY0
import Derived.Test.YtopgbgnmjogeeaaGreatDoorZh
/- Chapter 36: the document's clauses and first line. Conditions: none. -/
namespace Go.Proofs.YtopgbgnmjogeeaaGreatDoor
set_option maxRecDepth 8000
set_option linter.unusedVariables false
set_option linter.unusedSimpArgs false
set_option linter.unusedSectionVars false
open Go Go.Z Go.Z.Txt Go.Z.Sat Go.Z.Val Go.Z.Aig Go.Z.Tse

theorem dread_no {ρ : Nat → Obj → Prop} (wd : List UInt8) (hw : wd.length ≤ 1000000) (h : numV wd = none) : Con Tryz.prog ρ 71 #[.string (strOf wd)] [] (fun v H => ∃ n, v = .tuple #[.int .i64 n, .bool false] ∧ H = []) :=
  (dread_ok wd hw).mono fun v H ⟨n, b, e, h1, h2, e2⟩ => by
    cases b with
    | false => exact ⟨n, e, e2⟩
    | true => rw [h1 rfl] at h; cases h
theorem dread_yes {ρ : Nat → Obj → Prop} (wd : List UInt8) (hw : wd.length ≤ 1000000) {n : Int} (h : numV wd = some n) : Con Tryz.prog ρ 71 #[.string (strOf wd)] [] (fun v H => v = .tuple #[.int .i64 n, .bool true] ∧ H = []) :=
  (dread_ok wd hw).mono fun v H ⟨m, b, e, h1, h2, e2⟩ => by
    cases b with
    | false => rw [h2 rfl] at h; cases h
    | true =>
      have := h1 rfl
      rw [h] at this
      injection this with this
      subst this
      exact ⟨e, e2⟩
/-- what the document says of the words of a line -/
def ClD (W : List (List UInt8)) (v : Value) (H : List Assn) : Prop := match wordsV W with
  | some c => ∃ a cap, v = .tuple #[.slice a c.length cap, .bool true] ∧ H = [OwnSl 3 1 a c.length cap (c.map encI)]
  | none => (∃ a k cap, v = .tuple #[.slice a k cap, .bool false]) ∧ H = []
theorem dclause_ok {ρ : Nat → Obj → Prop} (s : List UInt8) (hs : s.length ≤ 1000000) : Con Tryz.prog ρ 50 #[.string (strOf s)] [] (ClD (wordsD s)) := by
  have hWl := wordsD_len s
  have hmem : ∀ x ∈ wordsD s, x.length ≤ s.length := fun x hx => by
    unfold wordsD at hx
    split at hx
    · cases hx
    · exact (pieces_mem hx).2
  refine con_intro Tryz.func50 Tryz.call50 rfl Tryz.ntmps50 rfl (L := [(0, _)]) rfl fun w hh => ?_
  refine g_seq ?_
  refine g_region ?_
  refine g_pure (p_assign rfl) rfl ?_
  refine g_pure (p_assign rfl) rfl ?_
  refine g_nil ?_
  refine g_qt ?_
  refine g_seq ?_
  refine g_region ?_
  refine g_pure (p_move rfl) rfl ?_
  refine g_call (Hin := []) (Hr := ?hr1) (R := ?rr1) rfl rfl rfl ?hin1 ?hc1 ?hk1
  case hin1 => repeat' (first | exact Cover.nil | exact Take.here | apply Cover.cons | apply Take.there)
  case hc1 => intro ρ' hρ hR; exact words_ok s hs
  rintro _ _ ⟨wa, wc, rfl, rfl⟩
  refine g_pure (p_assign rfl) rfl ?_
  refine g_nil ?_
  refine g_qt ?_
  refine g_seq ?_
  refine g_region ?_
  refine g_pure (p_assign rfl) rfl ?_
  refine g_nil ?_
  refine g_qt ?_
  refine g_seq ?_
  refine g_seq ?_
  refine g_region ?_
  refine g_pure (p_assign rfl) rfl ?_
  refine g_nil ?_
  refine g_qt ?_
  refine g_block ?_
  generalize wordsD s = W at hmem hWl ⊢
  refine g_ownnil (e := 3) (size := 1) ?_
  by_cases hW0 : W = []
  · subst hW0
    have hwv : wordsV [] = none := by simp [wordsV]
    refine g_loop (fun _ : Unit => [(4, .slice wa 0 wc), (5, .slice none 0 0), (6, .int .i64 0)]) (fun _ => [OwnSl 3 1 none 0 0 []]) (fun _ => True) (fun _ => 0) () trivial (by (repeat (first | exact trivial | refine ⟨by rfl, ?_⟩)); done) (by repeat' (first | exact Cover.nil | exact Take.here | apply Cover.cons | apply Take.there)) ?_
    rintro _ _
    refine g_seq ?_
    refine g_seq ?_
    refine g_region ?_
    refine g_pure (p_move rfl) rfl ?_
    refine g_pure (p_move rfl) rfl ?_
    refine g_pure (p_len (by rfl) rfl) rfl ?_
    refine g_pure (p_lss rfl rfl) rfl ?_
    refine g_nil ?_
    refine g_qt ?_
    refine g_ifd rfl (fun q => ?_) (fun q => ?_)
    · exfalso; omega
    · refine g_exit ?_
      refine g_qt_exit ?_
      refine g_qn_exit ?_
      refine g_qb_exit ?_
      refine g_qt ?_
      refine g_seq ?_
      refine g_region ?_
      refine g_pure (p_move rfl) rfl ?_
      refine g_pure (p_move rfl) rfl ?_
      refine g_pure (p_len (by rfl) rfl) rfl ?_
      refine g_pure (p_gtr rfl rfl) rfl ?_
      refine g_pure (p_assign rfl) rfl ?_
      refine g_pure (p_assign rfl) rfl ?_
      refine g_nil ?_
      refine g_qt ?_
      refine g_ret ?_
      exact g_post (Ho := []) (rs := [.tmp 2, .tmp 3]) rfl (.tmp rfl (.tmp rfl .nil)) (by unfold ClD; rw [hwv]; exact ⟨⟨none, 0, 0, rfl⟩, rfl⟩) (by repeat' (first | exact Cover.nil | exact Take.here | apply Cover.cons | apply Take.there))
  · have hpos : 0 < W.length := List.length_pos_iff.2 hW0
    refine g_own (e := 9) (xs := W.map encS) (by repeat' (first | exact Take.here | apply Take.there)) (fun _ h _ _ => absurd h (by omega)) (fun g cur r1 r2 r3 r4 r5 r6 => ?_)
    subst r1
    have hcur : ∀ (i : Nat) (hi : i < W.length), cur[0 + (i : Int).toNat * 1]? = some (.string (strOf W[i])) := fun i hi => own_at (k := i) r5 (by simp) (by simp [List.getElem?_eq_getElem hi, encS])
    refine g_loop (fun x : Nat × List Int × Option Addr × Nat => [(4, .slice (some ⟨g, 0, none⟩) W.length wc), (5, .slice x.2.2.1 x.2.1.length x.2.2.2), (6, .int .i64 x.1)])
      (fun x => [Blk g (.cells cur.toArray 9 (0, 0)), OwnSl 3 1 x.2.2.1 x.2.1.length x.2.2.2 (x.2.1.map encI)])
      (fun x => PD W x.1 x.2.1) (fun x => W.length - x.1) (0, [], none, 0) (PD.start W) (by (repeat (first | exact trivial | refine ⟨by rfl, ?_⟩)); done) (by repeat' (first | exact Cover.nil | exact Take.here | apply Cover.cons | apply Take.there)) ?_
    rintro ⟨i, out, a, cap⟩ hP
    dsimp only at hP ⊢
    have hcl := hP.len
    have hil := hP.le
    refine g_seq ?_
    refine g_seq ?_
    refine g_region ?_
    refine g_pure (p_move rfl) rfl ?_
    refine g_pure (p_move rfl) rfl ?_
    refine g_pure (p_len (by rfl) rfl) rfl ?_
    refine g_pure (p_lss rfl rfl) rfl ?_
    refine g_nil ?_
    refine g_qt ?_
    refine g_ifd rfl (fun q => ?_) (fun q => ?_)
    · have hi : i < W.length := by omega
      have hw := hmem W[i] (List.getElem_mem hi)
      refine g_skip ?_
      refine g_qt ?_
      refine g_seq ?_
      refine g_block ?_
      refine g_seq ?_
      refine g_region ?_
      refine g_pure (p_move rfl) rfl ?_
      refine g_pure (p_move rfl) rfl ?_
      refine g_pure (p_indexAddr rfl rfl (by omega) (fun _ => rfl)) rfl ?_
      refine g_pure (p_load (by rfl) rfl (Has.own (by repeat' (first | exact Take.here | apply Take.there))) (hcur i hi)) rfl ?_
      cases hA : numV W[i] with
      | none =>
        refine g_call (Hin := []) (Hr := ?hr2) (R := ?rr2) rfl rfl rfl ?hin2 ?hc2 ?hk2
        case hin2 => repeat' (first | exact Cover.nil | exact Take.here | apply Cover.cons | apply Take.there)
        case hc2 => intro ρ' hρ hR; exact dread_no W[i] (by omega) hA
        rintro _ _ ⟨n, rfl, rfl⟩
        refine g_pure (p_move rfl) rfl ?_
        refine g_pure (p_extract rfl rfl) rfl ?_
        refine g_pure (p_extract rfl rfl) rfl ?_
        refine g_pure (p_assign rfl) rfl ?_
        refine g_pure (p_assign rfl) rfl ?_
        refine g_nil ?_
        refine g_qt ?_
        refine g_seq ?_
        refine g_seq ?_
        refine g_region ?_
        refine g_pure (p_move rfl) rfl ?_
        refine g_pure (p_not rfl) rfl ?_
        refine g_pure (p_move rfl) rfl ?_
        refine g_no rfl rfl rfl rfl ?_
        refine g_no rfl rfl rfl rfl ?_
        refine g_no rfl rfl rfl rfl ?_
        refine g_no rfl rfl rfl rfl ?_
        refine g_no rfl rfl rfl rfl ?_
        refine g_no rfl rfl rfl rfl ?_
        refine g_no rfl rfl rfl rfl ?_
        refine g_no rfl rfl rfl rfl ?_
        first | refine g_pure (p_pickt rfl rfl) rfl ?_ | refine g_pure (p_pickf rfl rfl) rfl ?_
        refine g_nil ?_
        refine g_qt ?_
        refine g_ift rfl ?_
        refine g_seq ?_
        refine g_region ?_
        refine g_pure (p_assign rfl) rfl ?_
        refine g_pure (p_assign rfl) rfl ?_
        refine g_nil ?_
        refine g_qt ?_
        refine g_ret ?_
        refine g_qt_ret ?_
        refine g_qb_ret ?_
        refine g_qt_ret ?_
        refine g_qn_ret ?_
        refine g_qb_ret ?_
        refine g_qt_ret ?_
        exact g_post (Ho := []) (rs := [.tmp 2, .tmp 3]) rfl (.tmp rfl (.tmp rfl .nil)) (by unfold ClD; rw [hP.bad hi hA]; exact ⟨⟨none, 0, 0, rfl⟩, rfl⟩) (by repeat' (first | exact Cover.nil | exact Take.here | apply Cover.cons | apply Take.there))
      | some x =>
        refine g_call (Hin := []) (Hr := ?hr3) (R := ?rr3) rfl rfl rfl ?hin3 ?hc3 ?hk3
        case hin3 => repeat' (first | exact Cover.nil | exact Take.here | apply Cover.cons | apply Take.there)
        case hc3 => intro ρ' hρ hR; exact dread_yes W[i] (by omega) hA
        rintro _ _ ⟨rfl, rfl⟩
        refine g_pure (p_move rfl) rfl ?_
        refine g_pure (p_extract rfl rfl) rfl ?_
        refine g_pure (p_extract rfl rfl) rfl ?_
        refine g_pure (p_assign rfl) rfl ?_
        refine g_pure (p_assign rfl) rfl ?_
        refine g_nil ?_
        refine g_qt ?_
        refine g_seq ?_
        refine g_seq ?_
        refine g_region ?_
        refine g_pure (p_move rfl) rfl ?_
        refine g_pure (p_not rfl) rfl ?_
        refine g_pure (p_move rfl) rfl ?_
        refine g_yes rfl rfl ?_
        refine g_pure (p_move rfl) rfl ?_
        refine g_yes rfl rfl ?_
        refine g_pure (p_eql rfl rfl) rfl ?_
        refine g_yes rfl rfl ?_
        refine g_pure (p_move rfl) rfl ?_
        refine g_yes rfl rfl ?_
        refine g_pure (p_move rfl) rfl ?_
        refine g_yes rfl rfl ?_
        refine g_pure (p_len (by rfl) rfl) rfl ?_
        refine g_yes rfl rfl ?_
        first | refine g_pure (p_subi rfl rfl (by omega)) rfl ?_ | refine g_pure (p_sub rfl rfl) rfl ?_
        refine g_yes rfl rfl ?_
        refine g_pure (p_eql rfl rfl) rfl ?_
        refine g_yes rfl rfl ?_
        refine g_pure (p_neqb (by rfl) rfl rfl) rfl ?_
        first | refine g_pure (p_pickt rfl rfl) rfl ?_ | refine g_pure (p_pickf rfl rfl) rfl ?_
        refine g_nil ?_
        refine g_qt ?_
        refine g_if rfl (fun c => ?_) (fun c => ?_)
        · refine g_seq ?_
          refine g_region ?_
          refine g_pure (p_assign rfl) rfl ?_
          refine g_pure (p_assign rfl) rfl ?_
          refine g_nil ?_
          refine g_qt ?_
          refine g_ret ?_
          refine g_qt_ret ?_
          refine g_qb_ret ?_
          refine g_qt_ret ?_
          refine g_qn_ret ?_
          refine g_qb_ret ?_
          refine g_qt_ret ?_
          have hd : ¬ (x = 0 ↔ i + 1 = W.length) := fun hh => by
            have e : decide (x = 0) = decide ((i : Int) = (W.length : Int) - 1) := by
              rw [decide_eq_decide]; omega
            simp_all
          exact g_post (Ho := []) (rs := [.tmp 2, .tmp 3]) rfl (.tmp rfl (.tmp rfl .nil)) (by unfold ClD; rw [hP.odd hi hA hd]; exact ⟨⟨none, 0, 0, rfl⟩, rfl⟩) (by repeat' (first | exact Cover.nil | exact Take.here | apply Cover.cons | apply Take.there))
        · have hd : x = 0 ↔ i + 1 = W.length := by
            have e : decide (x = 0) = decide ((i : Int) = (W.length : Int) - 1) := by simpa using c
            rw [decide_eq_decide] at e; omega
          refine g_skip ?_
          refine g_qt ?_
          refine g_seq ?_
          refine g_region ?_
          refine g_pure (p_move rfl) rfl ?_
          refine g_pure (p_neq rfl rfl) rfl ?_
          refine g_nil ?_
          refine g_qt ?_
          refine g_ifnd rfl (fun h0 => ?_) (fun h0 => ?_)
          · refine g_region ?_
            refine g_pure (p_move rfl) rfl ?_
            refine g_pure (p_move rfl) rfl ?_
            refine g_eff (e_bs (xs := [.tmp 40]) rfl rfl rfl (by rfl) (by rfl) rfl (by rfl)) rfl (fun _ _ => ?_)
            rintro ⟨b41, rfl, rfl⟩
            refine g_eff (e_appendO (by rfl) (by rfl) rfl rfl (by first | (apply Has.own; (repeat' (first | exact Take.here | apply Take.there)); done) | exact Has.ro (by assumption)) (by rfl) (by rfl) (by repeat' (first | exact Take.here | apply Take.there)) (by omega) (by first | omega | (dsimp only; omega) | (simp <;> omega)) (by omega)) rfl (fun _ _ => ?_)
            rintro ⟨a42, c42, rfl, rfl⟩
            refine g_pure (p_assign rfl) rfl ?_
            refine g_nil ?_
            refine g_qb ?_
            refine g_qt ?_
            refine g_region ?_
            refine g_pure (p_move rfl) rfl ?_
            first | refine g_pure (p_addi rfl rfl (by omega)) rfl ?_ | refine g_pure (p_add rfl rfl) rfl ?_
            refine g_pure (p_assign rfl) rfl ?_
            refine g_nil ?_
            refine g_qn ?_
            rw [show out.length + 1 = (out ++ [x]).length by simp]
            refine g_weak (A := OwnSl 3 1 a42 (out ++ [x]).length c42 (List.map encI out ++ [.int .i64 x])) (B := OwnSl 3 1 a42 (out ++ [x]).length c42 ((out ++ [x]).map encI)) (by repeat' (first | exact Take.here | apply Take.there)) (fun h hh => by rw [List.map_append]; exact hh) ?_
            exact g_next (i + 1, out ++ [x], a42, c42) (by (repeat (first | exact trivial | refine ⟨by rfl, ?_⟩)); done) (by repeat' (first | exact Cover.nil | exact Take.here | apply Cover.cons | apply Take.there)) (hP.more hi hA h0 (fun e => h0 (hd.2 e))) (by dsimp only; omega)
          · subst h0
            refine g_skip ?_
            refine g_qb ?_
            refine g_qt ?_
            refine g_region ?_
            refine g_pure (p_move rfl) rfl ?_
            first | refine g_pure (p_addi rfl rfl (by omega)) rfl ?_ | refine g_pure (p_add rfl rfl) rfl ?_
            refine g_pure (p_assign rfl) rfl ?_
            refine g_nil ?_
            refine g_qn ?_
            exact g_next (i + 1, out, a, cap) (by (repeat (first | exact trivial | refine ⟨by rfl, ?_⟩)); done) (by repeat' (first | exact Cover.nil | exact Take.here | apply Cover.cons | apply Take.there)) (hP.last hi hA (hd.1 rfl)) (by dsimp only; omega)
    · have hie : i = W.length := by omega
      subst hie
      have hf := hP.fin rfl hW0
      have hp2 : decide (0 < (W.length : Int)) = true := decide_eq_true (by omega)
      refine g_exit ?_
      refine g_qt_exit ?_
      refine g_qn_exit ?_
      refine g_qb_exit ?_
      refine g_qt ?_
      refine g_seq ?_
      refine g_region ?_
      refine g_pure (p_move rfl) rfl ?_
      refine g_pure (p_move rfl) rfl ?_
      refine g_pure (p_len (by rfl) rfl) rfl ?_
      refine g_pure (p_gtr rfl rfl) rfl ?_
      refine g_pure (p_assign rfl) rfl ?_
      refine g_pure (p_assign rfl) rfl ?_
      refine g_nil ?_
      refine g_qt ?_
      refine g_ret ?_
      exact g_post (Ho := [OwnSl 3 1 a out.length cap (out.map encI)]) (rs := [.tmp 2, .tmp 3]) rfl (.tmp rfl (.tmp rfl .nil)) (by unfold ClD; rw [hf]; exact ⟨a, cap, by rw [hp2]; rfl, rfl⟩) (by repeat' (first | exact Cover.nil | exact Take.here | apply Cover.cons | apply Take.there))
/-- what the document says of the first line -/
def HeD (s : List UInt8) (v : Value) (H : List Assn) : Prop := match headD s with
  | some (x, y) => v = .tuple #[.int .i64 x, .int .i64 y, .bool true] ∧ H = []
  | none => (∃ x y, v = .tuple #[.int .i64 x, .int .i64 y, .bool false]) ∧ H = []
theorem HeD.no {s : List UInt8} (h : headD s = none) (x y : Int) : HeD s (.tuple #[.int .i64 x, .int .i64 y, .bool false]) [] := by unfold HeD; rw [h]; exact ⟨⟨x, y, rfl⟩, rfl⟩
theorem HeD.yes {s : List UInt8} {x y : Int} (h : headD s = some (x, y)) : HeD s (.tuple #[.int .i64 x, .int .i64 y, .bool true]) [] := by unfold HeD; rw [h]; exact ⟨rfl, rfl⟩
theorem dhead_ok {ρ : Nat → Obj → Prop} (s : List UInt8) (hs : s.length ≤ 1000000) : Con Tryz.prog ρ 49 #[.string (strOf s)] [] (HeD s) := by
  have hWl := wordsD_len s
  have hdoc := headD_doc s
  have hmem : ∀ x ∈ wordsD s, x.length ≤ s.length := fun x hx => by
    unfold wordsD at hx
    split at hx
    · cases hx
    · exact (pieces_mem hx).2
  refine con_intro Tryz.func49 Tryz.call49 rfl Tryz.ntmps49 rfl (L := [(0, _)]) rfl fun w hh => ?_
  refine g_seq ?_
  refine g_region ?_
  refine g_pure (p_assign rfl) rfl ?_
  refine g_pure (p_assign rfl) rfl ?_
  refine g_pure (p_assign rfl) rfl ?_
  refine g_nil ?_
  refine g_qt ?_
  refine g_seq ?_
  refine g_region ?_
  refine g_pure (p_move rfl) rfl ?_
  refine g_call (Hin := []) (Hr := ?hr4) (R := ?rr4) rfl rfl rfl ?hin4 ?hc4 ?hk4
  case hin4 => repeat' (first | exact Cover.nil | exact Take.here | apply Cover.cons | apply Take.there)
  case hc4 => intro ρ' hρ hR; exact words_ok s hs
  rintro _ _ ⟨wa, wc, rfl, rfl⟩
  generalize wordsD s = W at hmem hWl hdoc ⊢
  refine g_pure (p_assign rfl) rfl ?_
  refine g_nil ?_
  refine g_qt ?_
  refine g_seq ?_
  refine g_seq ?_
  refine g_region ?_
  refine g_pure (p_move rfl) rfl ?_
  refine g_pure (p_len (by rfl) rfl) rfl ?_
  refine g_pure (p_neq rfl rfl) rfl ?_
  refine g_pure (p_move rfl) rfl ?_
  refine g_splitnd rfl rfl (fun c => ?_) (fun c => ?_)
  · have hno : headD s = none := by
      rw [hdoc]
      match W, c with
      | [], _ => rfl
      | [_], _ => rfl
      | [_, _], _ => rfl
      | [_, _, _], _ => rfl
      | [_, _, _, _], c => exact absurd rfl c
      | _ :: _ :: _ :: _ :: _ :: _, _ => rfl
    refine g_no rfl rfl rfl rfl ?_
    refine g_no rfl rfl rfl rfl ?_
    refine g_no rfl rfl rfl rfl ?_
    refine g_no rfl rfl rfl rfl ?_
    first | refine g_pure (p_pickt rfl rfl) rfl ?_ | refine g_pure (p_pickf rfl rfl) rfl ?_
    refine g_pure (p_move rfl) rfl ?_
    refine g_no rfl rfl rfl rfl ?_
    refine g_no rfl rfl rfl rfl ?_
    refine g_no rfl rfl rfl rfl ?_
    refine g_no rfl rfl rfl rfl ?_
    first | refine g_pure (p_pickt rfl rfl) rfl ?_ | refine g_pure (p_pickf rfl rfl) rfl ?_
    refine g_nil ?_
    refine g_qt ?_
    refine g_ift rfl ?_
    refine g_seq ?_
    refine g_region ?_
    refine g_pure (p_assign rfl) rfl ?_
    refine g_pure (p_assign rfl) rfl ?_
    refine g_pure (p_assign rfl) rfl ?_
    refine g_nil ?_
    refine g_qt ?_
    refine g_ret ?_
    refine g_qt_ret ?_
    exact g_post (Ho := []) (rs := [.tmp 2, .tmp 3, .tmp 4]) rfl (.tmp rfl (.tmp rfl (.tmp rfl .nil))) (HeD.no hno 0 0) (by repeat' (first | exact Cover.nil | exact Take.here | apply Cover.cons | apply Take.there))
  · obtain ⟨w0, w1, w2, w3, rfl⟩ : ∃ w0 w1 w2 w3, W = [w0, w1, w2, w3] := by
      match W, c with
      | [a, b, d, e], _ => exact ⟨a, b, d, e, rfl⟩
      | [], c => simp at c
      | [_], c => simp at c
      | [_, _], c => simp at c
      | [_, _, _], c => simp at c
      | _ :: _ :: _ :: _ :: _ :: _, c => simp at c; omega
    have hm2 := hmem w2 (by simp)
    have hm3 := hmem w3 (by simp)
    refine g_own (e := 9) (k := 4) (xs := [w0, w1, w2, w3].map encS) (by repeat' (first | exact Take.here | apply Take.there)) (fun _ h _ _ => absurd h (by decide)) (fun g cur r1 r2 r3 r4 r5 r6 => ?_)
    subst r1
    have x0 : cur[0 + (0 : Int).toNat * 1]? = some (.string (strOf w0)) := own_at (k := 0) r5 rfl rfl
    have x1 : cur[0 + (1 : Int).toNat * 1]? = some (.string (strOf w1)) := own_at (k := 1) r5 rfl rfl
    have x2 : cur[0 + (2 : Int).toNat * 1]? = some (.string (strOf w2)) := own_at (k := 2) r5 rfl rfl
    have x3 : cur[0 + (3 : Int).toNat * 1]? = some (.string (strOf w3)) := own_at (k := 3) r5 rfl rfl
    have h4 : (([w0, w1, w2, w3] : List (List UInt8)).length : Int) = 4 := rfl
    by_cases hp : w0 = [112]
    · by_cases hq : w1 = [99, 110, 102]
      · have hh : headD s = match numV w2, numV w3 with
            | some x, some y => if x < 0 ∨ y < 0 then none else some (x, y)
            | _, _ => none := by rw [hdoc]; dsimp only; rw [if_pos ⟨hp, hq⟩] <;> rfl
        refine g_yes rfl rfl ?_
        refine g_pure (p_move rfl) rfl ?_
        refine g_yes rfl rfl ?_
        refine g_pure (p_indexAddr rfl rfl (by omega) (fun _ => rfl)) rfl ?_
        refine g_yes rfl rfl ?_
        refine g_pure (p_load (by rfl) rfl (Has.own (by repeat' (first | exact Take.here | apply Take.there))) x0) rfl ?_
        refine g_yes rfl rfl ?_
        refine g_pure (p_neqsF (by rfl) rfl rfl (strOf_inj.2 hp)) rfl ?_
        first | refine g_pure (p_pickt rfl rfl) rfl ?_ | refine g_pure (p_pickf rfl rfl) rfl ?_
        refine g_pure (p_move rfl) rfl ?_
        refine g_yes rfl rfl ?_
        refine g_pure (p_move rfl) rfl ?_
        refine g_yes rfl rfl ?_
        refine g_pure (p_indexAddr rfl rfl (by omega) (fun _ => rfl)) rfl ?_
        refine g_yes rfl rfl ?_
        refine g_pure (p_load (by rfl) rfl (Has.own (by repeat' (first | exact Take.here | apply Take.there))) x1) rfl ?_
        refine g_yes rfl rfl ?_
        refine g_pure (p_neqsF (by rfl) rfl rfl (strOf_inj.2 hq)) rfl ?_
        first | refine g_pure (p_pickt rfl rfl) rfl ?_ | refine g_pure (p_pickf rfl rfl) rfl ?_
        refine g_nil ?_
        refine g_qt ?_
        refine g_iff rfl ?_
        refine g_skip ?_
        refine g_qt ?_
        refine g_seq ?_
        refine g_region ?_
        refine g_pure (p_move rfl) rfl ?_
        refine g_pure (p_indexAddr rfl rfl (by omega) (fun _ => rfl)) rfl ?_
        refine g_pure (p_load (by rfl) rfl (Has.own (by repeat' (first | exact Take.here | apply Take.there))) x2) rfl ?_
        refine g_call (Hin := []) (Hr := ?hr5) (R := ?rr5) rfl rfl rfl ?hin5 ?hc5 ?hk5
        case hin5 => repeat' (first | exact Cover.nil | exact Take.here | apply Cover.cons | apply Take.there)
        case hc5 => intro ρ' hρ hR; exact dread_ok w2 (by omega)
        rintro _ _ ⟨x, bx, rfl, hx1, hx2, rfl⟩
        refine g_pure (p_move rfl) rfl ?_
        refine g_pure (p_extract rfl rfl) rfl ?_
        refine g_pure (p_extract rfl rfl) rfl ?_
        refine g_pure (p_assign rfl) rfl ?_
        refine g_pure (p_assign rfl) rfl ?_
        refine g_nil ?_
        refine g_qt ?_
        refine g_seq ?_
        refine g_region ?_
        refine g_pure (p_move rfl) rfl ?_
        refine g_pure (p_indexAddr rfl rfl (by omega) (fun _ => rfl)) rfl ?_
        refine g_pure (p_load (by rfl) rfl (Has.own (by repeat' (first | exact Take.here | apply Take.there))) x3) rfl ?_
        refine g_call (Hin := []) (Hr := ?hr6) (R := ?rr6) rfl rfl rfl ?hin6 ?hc6 ?hk6
        case hin6 => repeat' (first | exact Cover.nil | exact Take.here | apply Cover.cons | apply Take.there)
        case hc6 => intro ρ' hρ hR; exact dread_ok w3 (by omega)
        rintro _ _ ⟨y, by', rfl, hy1, hy2, rfl⟩
        have k1 : bx = false → headD s = none := fun h => by rw [hh, hx2 h]
        have k2 : by' = false → headD s = none := fun h => by rw [hh, hy2 h]; split <;> simp_all
        have k3 : bx = true → by' = true → ¬ (0 ≤ x ∧ 0 ≤ y) → headD s = none := fun h h' h2 => by rw [hh, hx1 h, hy1 h']; dsimp only; rw [if_pos (by omega)]
        have k4 : bx = true → by' = true → (0 ≤ x ∧ 0 ≤ y) → headD s = some (x, y) := fun h h' h2 => by rw [hh, hx1 h, hy1 h']; dsimp only; rw [if_neg (by omega)]
        refine g_pure (p_move rfl) rfl ?_
        refine g_pure (p_extract rfl rfl) rfl ?_
        refine g_pure (p_extract rfl rfl) rfl ?_
        refine g_pure (p_assign rfl) rfl ?_
        refine g_pure (p_assign rfl) rfl ?_
        refine g_nil ?_
        refine g_qt ?_
        refine g_seq ?_
        refine g_region ?_
        refine g_pure (p_move rfl) rfl ?_
        refine g_pure (p_move rfl) rfl ?_
        refine g_pure (p_move rfl) rfl ?_
        refine g_pure (p_move rfl) rfl ?_
        refine g_split rfl rfl (fun h1 => ?_) (fun h1 => ?_)
        · refine g_yes rfl rfl ?_
          refine g_pure (p_move rfl) rfl ?_
          first | refine g_pure (p_pickt rfl rfl) rfl ?_ | refine g_pure (p_pickf rfl rfl) rfl ?_
          refine g_pure (p_move rfl) rfl ?_
          refine g_split rfl rfl (fun h2 => ?_) (fun h2 => ?_)
          · refine g_yes rfl rfl ?_
            refine g_pure (p_move rfl) rfl ?_
            refine g_yes rfl rfl ?_
            refine g_pure (p_geq rfl rfl) rfl ?_
            first | refine g_pure (p_pickt rfl rfl) rfl ?_ | refine g_pure (p_pickf rfl rfl) rfl ?_
            refine g_pure (p_move rfl) rfl ?_
            refine g_splitd rfl rfl (fun h3 => ?_) (fun h3 => ?_)
            · refine g_yes rfl rfl ?_
              refine g_pure (p_move rfl) rfl ?_
              refine g_yes rfl rfl ?_
              refine g_pure (p_geq rfl rfl) rfl ?_
              first | refine g_pure (p_pickt rfl rfl) rfl ?_ | refine g_pure (p_pickf rfl rfl) rfl ?_
              refine g_pure (p_assign rfl) rfl ?_
              refine g_pure (p_assign rfl) rfl ?_
              refine g_pure (p_assign rfl) rfl ?_
              refine g_nil ?_
              refine g_qt ?_
              refine g_ret ?_
              first | exact g_post (Ho := []) (rs := [.tmp 2, .tmp 3, .tmp 4]) rfl (.tmp rfl (.tmp rfl (.tmp rfl .nil))) (HeD.no (k1 (by assumption)) x y) (by repeat' (first | exact Cover.nil | exact Take.here | apply Cover.cons | apply Take.there)) | exact g_post (Ho := []) (rs := [.tmp 2, .tmp 3, .tmp 4]) rfl (.tmp rfl (.tmp rfl (.tmp rfl .nil))) (HeD.no (k2 (by assumption)) x y) (by repeat' (first | exact Cover.nil | exact Take.here | apply Cover.cons | apply Take.there)) | exact g_post (Ho := []) (rs := [.tmp 2, .tmp 3, .tmp 4]) rfl (.tmp rfl (.tmp rfl (.tmp rfl .nil))) (HeD.no (k3 (by assumption) (by assumption) (by omega)) x y) (by repeat' (first | exact Cover.nil | exact Take.here | apply Cover.cons | apply Take.there)) | (by_cases hy0 : 0 ≤ y; (rw [decide_eq_true hy0]; exact g_post (Ho := []) (rs := [.tmp 2, .tmp 3, .tmp 4]) rfl (.tmp rfl (.tmp rfl (.tmp rfl .nil))) (HeD.yes (k4 (by assumption) (by assumption) ⟨by omega, hy0⟩)) (by repeat' (first | exact Cover.nil | exact Take.here | apply Cover.cons | apply Take.there))); (rw [decide_eq_false hy0]; exact g_post (Ho := []) (rs := [.tmp 2, .tmp 3, .tmp 4]) rfl (.tmp rfl (.tmp rfl (.tmp rfl .nil))) (HeD.no (k3 (by assumption) (by assumption) (by omega)) x y) (by repeat' (first | exact Cover.nil | exact Take.here | apply Cover.cons | apply Take.there))))
            · refine g_no rfl rfl rfl rfl ?_
              refine g_no rfl rfl rfl rfl ?_
              first | refine g_pure (p_pickt rfl rfl) rfl ?_ | refine g_pure (p_pickf rfl rfl) rfl ?_
              refine g_pure (p_assign rfl) rfl ?_
              refine g_pure (p_assign rfl) rfl ?_
              refine g_pure (p_assign rfl) rfl ?_
              refine g_nil ?_
              refine g_qt ?_
              refine g_ret ?_
              first | exact g_post (Ho := []) (rs := [.tmp 2, .tmp 3, .tmp 4]) rfl (.tmp rfl (.tmp rfl (.tmp rfl .nil))) (HeD.no (k1 (by assumption)) x y) (by repeat' (first | exact Cover.nil | exact Take.here | apply Cover.cons | apply Take.there)) | exact g_post (Ho := []) (rs := [.tmp 2, .tmp 3, .tmp 4]) rfl (.tmp rfl (.tmp rfl (.tmp rfl .nil))) (HeD.no (k2 (by assumption)) x y) (by repeat' (first | exact Cover.nil | exact Take.here | apply Cover.cons | apply Take.there)) | exact g_post (Ho := []) (rs := [.tmp 2, .tmp 3, .tmp 4]) rfl (.tmp rfl (.tmp rfl (.tmp rfl .nil))) (HeD.no (k3 (by assumption) (by assumption) (by omega)) x y) (by repeat' (first | exact Cover.nil | exact Take.here | apply Cover.cons | apply Take.there)) | (by_cases hy0 : 0 ≤ y; (rw [decide_eq_true hy0]; exact g_post (Ho := []) (rs := [.tmp 2, .tmp 3, .tmp 4]) rfl (.tmp rfl (.tmp rfl (.tmp rfl .nil))) (HeD.yes (k4 (by assumption) (by assumption) ⟨by omega, hy0⟩)) (by repeat' (first | exact Cover.nil | exact Take.here | apply Cover.cons | apply Take.there))); (rw [decide_eq_false hy0]; exact g_post (Ho := []) (rs := [.tmp 2, .tmp 3, .tmp 4]) rfl (.tmp rfl (.tmp rfl (.tmp rfl .nil))) (HeD.no (k3 (by assumption) (by assumption) (by omega)) x y) (by repeat' (first | exact Cover.nil | exact Take.here | apply Cover.cons | apply Take.there))))
          · refine g_no rfl rfl rfl rfl ?_
            refine g_no rfl rfl rfl rfl ?_
            first | refine g_pure (p_pickt rfl rfl) rfl ?_ | refine g_pure (p_pickf rfl rfl) rfl ?_
            refine g_pure (p_move rfl) rfl ?_
            refine g_no rfl rfl rfl rfl ?_
            refine g_no rfl rfl rfl rfl ?_
            first | refine g_pure (p_pickt rfl rfl) rfl ?_ | refine g_pure (p_pickf rfl rfl) rfl ?_
            refine g_pure (p_assign rfl) rfl ?_
            refine g_pure (p_assign rfl) rfl ?_
            refine g_pure (p_assign rfl) rfl ?_
            refine g_nil ?_
            refine g_qt ?_
            refine g_ret ?_
            first | exact g_post (Ho := []) (rs := [.tmp 2, .tmp 3, .tmp 4]) rfl (.tmp rfl (.tmp rfl (.tmp rfl .nil))) (HeD.no (k1 (by assumption)) x y) (by repeat' (first | exact Cover.nil | exact Take.here | apply Cover.cons | apply Take.there)) | exact g_post (Ho := []) (rs := [.tmp 2, .tmp 3, .tmp 4]) rfl (.tmp rfl (.tmp rfl (.tmp rfl .nil))) (HeD.no (k2 (by assumption)) x y) (by repeat' (first | exact Cover.nil | exact Take.here | apply Cover.cons | apply Take.there)) | exact g_post (Ho := []) (rs := [.tmp 2, .tmp 3, .tmp 4]) rfl (.tmp rfl (.tmp rfl (.tmp rfl .nil))) (HeD.no (k3 (by assumption) (by assumption) (by omega)) x y) (by repeat' (first | exact Cover.nil | exact Take.here | apply Cover.cons | apply Take.there)) | (by_cases hy0 : 0 ≤ y; (rw [decide_eq_true hy0]; exact g_post (Ho := []) (rs := [.tmp 2, .tmp 3, .tmp 4]) rfl (.tmp rfl (.tmp rfl (.tmp rfl .nil))) (HeD.yes (k4 (by assumption) (by assumption) ⟨by omega, hy0⟩)) (by repeat' (first | exact Cover.nil | exact Take.here | apply Cover.cons | apply Take.there))); (rw [decide_eq_false hy0]; exact g_post (Ho := []) (rs := [.tmp 2, .tmp 3, .tmp 4]) rfl (.tmp rfl (.tmp rfl (.tmp rfl .nil))) (HeD.no (k3 (by assumption) (by assumption) (by omega)) x y) (by repeat' (first | exact Cover.nil | exact Take.here | apply Cover.cons | apply Take.there))))
        · refine g_no rfl rfl rfl rfl ?_
          first | refine g_pure (p_pickt rfl rfl) rfl ?_ | refine g_pure (p_pickf rfl rfl) rfl ?_
          refine g_pure (p_move rfl) rfl ?_
          refine g_no rfl rfl rfl rfl ?_
          refine g_no rfl rfl rfl rfl ?_
          first | refine g_pure (p_pickt rfl rfl) rfl ?_ | refine g_pure (p_pickf rfl rfl) rfl ?_
          refine g_pure (p_move rfl) rfl ?_
          refine g_no rfl rfl rfl rfl ?_
          refine g_no rfl rfl rfl rfl ?_
          first | refine g_pure (p_pickt rfl rfl) rfl ?_ | refine g_pure (p_pickf rfl rfl) rfl ?_
          refine g_pure (p_assign rfl) rfl ?_
          refine g_pure (p_assign rfl) rfl ?_
          refine g_pure (p_assign rfl) rfl ?_
          refine g_nil ?_
          refine g_qt ?_
          refine g_ret ?_
          first | exact g_post (Ho := []) (rs := [.tmp 2, .tmp 3, .tmp 4]) rfl (.tmp rfl (.tmp rfl (.tmp rfl .nil))) (HeD.no (k1 (by assumption)) x y) (by repeat' (first | exact Cover.nil | exact Take.here | apply Cover.cons | apply Take.there)) | exact g_post (Ho := []) (rs := [.tmp 2, .tmp 3, .tmp 4]) rfl (.tmp rfl (.tmp rfl (.tmp rfl .nil))) (HeD.no (k2 (by assumption)) x y) (by repeat' (first | exact Cover.nil | exact Take.here | apply Cover.cons | apply Take.there)) | exact g_post (Ho := []) (rs := [.tmp 2, .tmp 3, .tmp 4]) rfl (.tmp rfl (.tmp rfl (.tmp rfl .nil))) (HeD.no (k3 (by assumption) (by assumption) (by omega)) x y) (by repeat' (first | exact Cover.nil | exact Take.here | apply Cover.cons | apply Take.there)) | (by_cases hy0 : 0 ≤ y; (rw [decide_eq_true hy0]; exact g_post (Ho := []) (rs := [.tmp 2, .tmp 3, .tmp 4]) rfl (.tmp rfl (.tmp rfl (.tmp rfl .nil))) (HeD.yes (k4 (by assumption) (by assumption) ⟨by omega, hy0⟩)) (by repeat' (first | exact Cover.nil | exact Take.here | apply Cover.cons | apply Take.there))); (rw [decide_eq_false hy0]; exact g_post (Ho := []) (rs := [.tmp 2, .tmp 3, .tmp 4]) rfl (.tmp rfl (.tmp rfl (.tmp rfl .nil))) (HeD.no (k3 (by assumption) (by assumption) (by omega)) x y) (by repeat' (first | exact Cover.nil | exact Take.here | apply Cover.cons | apply Take.there))))
      · have hno : headD s = none := by rw [hdoc]; dsimp only; rw [if_neg (fun h => hq h.2)]
        refine g_yes rfl rfl ?_
        refine g_pure (p_move rfl) rfl ?_
        refine g_yes rfl rfl ?_
        refine g_pure (p_indexAddr rfl rfl (by omega) (fun _ => rfl)) rfl ?_
        refine g_yes rfl rfl ?_
        refine g_pure (p_load (by rfl) rfl (Has.own (by repeat' (first | exact Take.here | apply Take.there))) x0) rfl ?_
        refine g_yes rfl rfl ?_
        refine g_pure (p_neqsF (by rfl) rfl rfl (strOf_inj.2 hp)) rfl ?_
        first | refine g_pure (p_pickt rfl rfl) rfl ?_ | refine g_pure (p_pickf rfl rfl) rfl ?_
        refine g_pure (p_move rfl) rfl ?_
        refine g_yes rfl rfl ?_
        refine g_pure (p_move rfl) rfl ?_
        refine g_yes rfl rfl ?_
        refine g_pure (p_indexAddr rfl rfl (by omega) (fun _ => rfl)) rfl ?_
        refine g_yes rfl rfl ?_
        refine g_pure (p_load (by rfl) rfl (Has.own (by repeat' (first | exact Take.here | apply Take.there))) x1) rfl ?_
        refine g_yes rfl rfl ?_
        refine g_pure (p_neqsT (by rfl) rfl rfl (fun e => hq (strOf_inj.1 e))) rfl ?_
        first | refine g_pure (p_pickt rfl rfl) rfl ?_ | refine g_pure (p_pickf rfl rfl) rfl ?_
        refine g_nil ?_
        refine g_qt ?_
        refine g_ift rfl ?_
        refine g_seq ?_
        refine g_region ?_
        refine g_pure (p_assign rfl) rfl ?_
        refine g_pure (p_assign rfl) rfl ?_
        refine g_pure (p_assign rfl) rfl ?_
        refine g_nil ?_
        refine g_qt ?_
        refine g_ret ?_
        refine g_qt_ret ?_
        exact g_post (Ho := []) (rs := [.tmp 2, .tmp 3, .tmp 4]) rfl (.tmp rfl (.tmp rfl (.tmp rfl .nil))) (HeD.no hno 0 0) (by repeat' (first | exact Cover.nil | exact Take.here | apply Cover.cons | apply Take.there))
    · have hno : headD s = none := by rw [hdoc]; dsimp only; rw [if_neg (fun h => hp h.1)]
      refine g_yes rfl rfl ?_
      refine g_pure (p_move rfl) rfl ?_
      refine g_yes rfl rfl ?_
      refine g_pure (p_indexAddr rfl rfl (by omega) (fun _ => rfl)) rfl ?_
      refine g_yes rfl rfl ?_
      refine g_pure (p_load (by rfl) rfl (Has.own (by repeat' (first | exact Take.here | apply Take.there))) x0) rfl ?_
      refine g_yes rfl rfl ?_
      refine g_pure (p_neqsT (by rfl) rfl rfl (fun e => hp (strOf_inj.1 e))) rfl ?_
      first | refine g_pure (p_pickt rfl rfl) rfl ?_ | refine g_pure (p_pickf rfl rfl) rfl ?_
      refine g_pure (p_move rfl) rfl ?_
      refine g_no rfl rfl rfl rfl ?_
      refine g_no rfl rfl rfl rfl ?_
      refine g_no rfl rfl rfl rfl ?_
      refine g_no rfl rfl rfl rfl ?_
      first | refine g_pure (p_pickt rfl rfl) rfl ?_ | refine g_pure (p_pickf rfl rfl) rfl ?_
      refine g_nil ?_
      refine g_qt ?_
      refine g_ift rfl ?_
      refine g_seq ?_
      refine g_region ?_
      refine g_pure (p_assign rfl) rfl ?_
      refine g_pure (p_assign rfl) rfl ?_
      refine g_pure (p_assign rfl) rfl ?_
      refine g_nil ?_
      refine g_qt ?_
      refine g_ret ?_
      refine g_qt_ret ?_
      exact g_post (Ho := []) (rs := [.tmp 2, .tmp 3, .tmp 4]) rfl (.tmp rfl (.tmp rfl (.tmp rfl .nil))) (HeD.no hno 0 0) (by repeat' (first | exact Cover.nil | exact Take.here | apply Cover.cons | apply Take.there))
end Go.Proofs.YtopgbgnmjogeeaaGreatDoor
/- Chapter 36: the page's examples. Conditions: what the library's variables hold (LibC). -/
namespace Go.Z.Tse
set_option maxRecDepth 8000
set_option linter.unusedVariables false
set_option linter.unusedSimpArgs false
set_option linter.unusedSectionVars false
open Go Go.Z Go.Z.Aig Go.Z.Sat Go.Z.Txt Go.Lib Go.Proofs.YtopgbgnmjogeeaaGreatDoor

def SA : St := [(0, 0, false), (0, 0, true), (0, 0, true), (2, 4, false)]
def actsA : List Ac := [⟨0, 0, 0, 0⟩, ⟨0, 0, 0, 0⟩, ⟨1, 2, 4, 0⟩]
theorem exA_st : afterA (actsA.take 60) = SA := by decide
theorem exA_ok : ∀ x ∈ actsA, x.ok := by
  intro x hx
  simp only [actsA, List.mem_cons, List.not_mem_nil, or_false] at hx
  rcases hx with rfl | rfl | rfl <;> exact ⟨⟨by decide, by decide⟩, ⟨by decide, by decide⟩, ⟨by decide, by decide⟩, ⟨by decide, by decide⟩⟩
def FA : List (List Int) := [[-3, 1], [-3, 2], [3, -1, -2], [3]]
theorem exA_cnf {nd : Nat → Bool} (h : ∀ u, nd u = true ↔ Nd SA [6] u) : cnfF SA nd [6] = FA := by
  have h3 : nd 3 = true := (h 3).2 (Nd.root (S := SA) (r := 6) (by simp))
  unfold cnfF
  rw [show SA.length = 4 from rfl, gates_succ, gates_succ, gates_succ, gates_succ, h3]
  have g0 : gcls SA 0 = [] := rfl
  have g1 : gcls SA 1 = [] := rfl
  have g2 : gcls SA 2 = [] := rfl
  have g3 : gcls SA 3 = [[-3, 1], [-3, 2], [3, -1, -2]] := rfl
  have gz : gates SA nd 0 = [] := rfl
  rw [g0, g1, g2, g3, gz, ite_self, ite_self, ite_self, if_pos rfl]
  rfl
theorem exA_fm : check1 3 FA = 0 := by decide
theorem exA_lits : ∀ c ∈ FA, ∀ x ∈ c, I64 x := by
  intro c hc x hx
  simp only [FA, List.mem_cons, List.not_mem_nil, or_false] at hc
  rcases hc with rfl | rfl | rfl | rfl <;> simp only [List.mem_cons, List.not_mem_nil, or_false] at hx <;> rcases hx with rfl | rfl | rfl <;> exact ⟨by decide, by decide⟩
theorem exA_lens : ∀ c ∈ FA, c.length ≤ 1000 := by
  intro c hc
  simp only [FA, List.mem_cons, List.not_mem_nil, or_false] at hc
  rcases hc with rfl | rfl | rfl | rfl <;> decide
/-- what a small formula must bear -/
theorem small_Ok {n : Int} {F : Fm} (hl : F.length ≤ 2000) (ht : total F ≤ 2000) (hc : check1 n F = 0) : Ok n.toNat F := by
  have hnn := check1_nonneg hc
  have hv : n ≤ 262144 := by
    unfold check1 at hc
    split at hc
    · cases hc
    · omega
  have hall : allB n F = true := by
    unfold check1 at hc
    rw [if_neg (by omega), if_neg (by omega)] at hc
    split at hc
    · assumption
    · cases hc
  refine ⟨fun c hcm l hl => ?_, by omega, by omega, fun c hcm => by have := mem_total hcm; omega, fun k => by have := useRow_total F k; omega⟩
  have h1 := List.all_eq_true.1 hall c hcm
  have h2 := List.all_eq_true.1 h1 l hl
  refine okB_okL ?_
  rw [Int.toNat_of_nonneg hnn.1]; exact h2
theorem itoa_dig {n : Int} (h : 0 ≤ n ∧ n < 10) : itoa n = [UInt8.ofNat (48 + n.toNat)] := by rw [Val.itoa_pos (by omega)]; exact Val.dec_small (by omega)
theorem itoa_ndig {n : Int} (h : n < 0 ∧ -10 < n) : itoa n = [45, UInt8.ofNat (48 + n.natAbs)] := by rw [Val.itoa_neg h.1, Val.dec_small (by omega)]
theorem exB_text : textV 2 [[1, -2], []] = [112, 32, 99, 110, 102, 32, 50, 32, 50, 10, 49, 32, 45, 50, 32, 48, 10, 48, 10] := by
  unfold textV headT lineT
  simp only [List.map_cons, List.map_nil, List.length_cons, List.length_nil]
  rw [itoa_dig (n := 2) (by decide), itoa_dig (n := ((0 + 1 + 1 : Nat) : Int)) (by decide), itoa_dig (n := 1) (by decide), itoa_ndig (n := -2) (by decide)]
  rfl
theorem exB_check : check1 2 [[1, -2], []] = 0 := by decide
def txC : List UInt8 := [112, 32, 99, 110, 102, 32, 49, 32, 49, 10, 50, 32, 48, 10]
theorem numV_dig {n : Int} (h : 0 ≤ n ∧ n < 10) : numV [UInt8.ofNat (48 + n.toNat)] = some n := by rw [← itoa_dig h]; exact numV_itoa (by omega)
theorem exC_parse : parseV txC = .error (2, 14) := by
  have e1 : numV [49] = some 1 := numV_dig (n := 1) (by decide)
  have e2 : numV [50] = some 2 := numV_dig (n := 2) (by decide)
  have e0 : numV [48] = some 0 := numV_dig (n := 0) (by decide)
  have h : headV [112, 32, 99, 110, 102, 32, 49, 32, 49] = .ok (1, 1) := by
    unfold headV
    rw [show pieces 32 [112, 32, 99, 110, 102, 32, 49, 32, 49] = [[112], [99, 110, 102], [49], [49]] from rfl]
    dsimp only
    rw [if_pos ⟨rfl, rfl⟩, e1]
    rfl
  have hw : wordsV (pieces 32 [50, 32, 48]) = some [2] := by
    rw [show pieces 32 [50, 32, 48] = [[50], [48]] from rfl]
    show (match numV [50] with | some n => if n = 0 then none else (wordsV [[48]]).map (n :: ·) | none => none) = _
    rw [e2]
    show (wordsV [[48]]).map ((2 : Int) :: ·) = _
    show (match numV [48] with | some n => if n = 0 then some [] else none | none => none).map ((2 : Int) :: ·) = some [2]
    rw [e0]
    rfl
  unfold parseV
  rw [show txC = [112, 32, 99, 110, 102, 32, 49, 32, 49] ++ 10 :: [50, 32, 48, 10] from rfl, cut_hit _ (by decide)]
  dsimp only
  rw [h]
  dsimp only
  rw [show (1 : Int).toNat = 0 + 1 from rfl, bodyV, show [50, 32, 48, 10] = [50, 32, 48] ++ 10 :: ([] : List UInt8) from rfl, cut_hit _ (by decide)]
  dsimp only
  rw [hw]
  rfl
end Go.Z.Tse
namespace Go.Proofs.YtopgbgnmjogeeaaGreatDoor
set_option maxRecDepth 8000
set_option linter.unusedVariables false
set_option linter.unusedSimpArgs false
set_option linter.unusedSectionVars false
open Go Go.Z Go.Z.Aig Go.Z.Tse Go.Z.Sat Go.Z.Txt

theorem cons_ro {ρ : Nat → Obj → Prop} {b : Nat} {cs : List Value} {T : TypeId} {f : Nat × Nat} {F : Fm} (r0 : ρ b (.cells cs.toArray T f)) (hl : F.length ≤ 1000000) (hlen : cs.length = F.length) (hlens : ∀ c ∈ F, c.length ≤ 1000) (hI : ∀ c ∈ F, ∀ x ∈ c, I64 x)
    (hr : ∀ j (hj : j < F.length), ∃ a c, cs[j]? = some (.slice a F[j].length c) ∧ RSl ρ 1 a F[j].length (F[j].map encI)) : FmR ρ (some ⟨b, 0, none⟩) F := by
  refine ⟨⟨cs, ⟨by rw [List.length_map]; exact hlen, fun j hj => ?_⟩, ?_⟩, by omega, fun c hc => by have := hlens c hc; omega, hI⟩
  · rw [List.length_map] at hj
    obtain ⟨a, c, h1, h2⟩ := hr j hj
    exact ⟨a, c, by rw [List.getElem_map, List.length_map]; exact h1, by rw [List.getElem_map, List.length_map]; exact h2⟩
  · have h := RSl.of_blk (size := 1) (k := cs.length) r0 (by omega)
    rw [Nat.mul_one, List.take_length] at h
    rw [List.length_map, ← hlen]; exact h
theorem exA_ro {ρ : Nat → Obj → Prop} {b b1 b2 b3 b4 : Nat} {T T1 T2 T3 T4 : TypeId} {f f1 f2 f3 f4 : Nat × Nat} (r0 : ρ b (.cells [.slice (some ⟨b1, 0, none⟩) 2 2, .slice (some ⟨b2, 0, none⟩) 2 2, .slice (some ⟨b3, 0, none⟩) 3 3, .slice (some ⟨b4, 0, none⟩) 1 1].toArray T f))
    (r1 : ρ b1 (.cells [encI (-3), encI 1].toArray T1 f1)) (r2 : ρ b2 (.cells [encI (-3), encI 2].toArray T2 f2)) (r3 : ρ b3 (.cells [encI 3, encI (-1), encI (-2)].toArray T3 f3)) (r4 : ρ b4 (.cells [encI 3].toArray T4 f4)) : FmR ρ (some ⟨b, 0, none⟩) FA :=
  cons_ro r0 (by decide) rfl exA_lens exA_lits fun j hj => match j, hj with
    | 0, _ => ⟨_, 2, rfl, RSl.of_blk (k := 2) r1 (by simp)⟩
    | 1, _ => ⟨_, 2, rfl, RSl.of_blk (k := 2) r2 (by simp)⟩
    | 2, _ => ⟨_, 3, rfl, RSl.of_blk (k := 3) r3 (by simp)⟩
    | 3, _ => ⟨_, 1, rfl, RSl.of_blk (k := 1) r4 (by simp)⟩
theorem exB_ro {ρ : Nat → Obj → Prop} {b b1 b2 : Nat} {T T1 T2 : TypeId} {f f1 f2 : Nat × Nat} (r0 : ρ b (.cells [.slice (some ⟨b1, 0, none⟩) 2 2, .slice (some ⟨b2, 0, none⟩) 0 0].toArray T f))
    (r1 : ρ b1 (.cells [encI 1, encI (-2)].toArray T1 f1)) (r2 : ρ b2 (.cells ([] : List Value).toArray T2 f2)) : FmR ρ (some ⟨b, 0, none⟩) [[1, -2], []] :=
  cons_ro r0 (by decide) rfl (by decide) (by
    intro c hc x hx
    simp only [List.mem_cons, List.not_mem_nil, or_false] at hc
    rcases hc with rfl | rfl
    · simp only [List.mem_cons, List.not_mem_nil, or_false] at hx
      rcases hx with rfl | rfl <;> exact ⟨by decide, by decide⟩
    · cases hx) fun j hj => match j, hj with
    | 0, _ => ⟨_, 2, rfl, RSl.of_blk (k := 2) r1 (by simp)⟩
    | 1, _ => ⟨_, 0, rfl, RSl.of_blk (k := 0) r2 (by simp)⟩
theorem exA_wf : WF SA := by
  have h1 : WF (L0 ++ [(0, 0, true)]) := WF.new.input (by decide)
  have h2 : WF (L0 ++ [(0, 0, true)] ++ [(0, 0, true)]) := h1.input (by decide)
  have h3 := h2.gate' (by decide) (x := 2) (y := 4) (by decide) (by decide) (by decide) (by decide)
  exact h3
theorem of_exA {ρ : Nat → Obj → Prop} {p : Nat} (hg : Ro ρ (Gr p SA)) {al : Option Addr} {cl : Nat} (hl : RSl ρ 1 al 1 [encI 6]) : Con Tryz.prog ρ 10 #[.pointer (some ⟨p, 0, none⟩), .slice al 1 cl] []
    (fun v H => ∃ ca cc, v = .tuple #[.agg #[.int .i64 3, .slice ca FA.length cc], .int .i64 0] ∧ H = [Own2 79 3 ca cc (FA.map encCl)]) :=
  (of_ok p SA exA_wf hg al cl [6] hl (by decide) (fun r hr => by rw [List.mem_singleton.1 hr]; exact ⟨by decide, by decide⟩)).mono fun v H ⟨ca, cc, nd, hnd, e1, e2⟩ => by
    rw [exA_cnf hnd] at e1 e2
    exact ⟨ca, cc, e1, e2⟩
theorem of_exE {ρ : Nat → Obj → Prop} {p : Nat} (hg : Ro ρ (Gr p SA)) {al : Option Addr} {cl : Nat} (hl : RSl ρ 1 al 1 [encI 8]) : Con Tryz.prog ρ 10 #[.pointer (some ⟨p, 0, none⟩), .slice al 1 cl] []
    (fun v H => v = .tuple #[.agg #[.int .i64 0, .slice none 0 0], .int .i64 14] ∧ H = []) :=
  of_no p SA exA_wf hg al cl [8] hl (by decide) (fun r hr => by rw [List.mem_singleton.1 hr]; exact ⟨by decide, by decide⟩) (fun h => by have := (h 8 (by simp)).2; revert this; decide)
theorem built_exA {ρ : Nat → Obj → Prop} {a : Option Addr} {c : Nat} (hl : RSl ρ 4 a 3 (actsA.flatMap encA)) : Con Tryz.prog ρ 8 #[.slice a 3 c] []
    (fun v H => ∃ p, v = .tuple #[.pointer (some ⟨p, 0, none⟩), .int .i64 2] ∧ H = [Gr p SA]) :=
  (built36_ok a c actsA hl (by decide) exA_ok).mono fun v H ⟨p, e1, e2⟩ => by
    rw [exA_st] at e1 e2
    exact ⟨p, e1, e2⟩

theorem text_exB {ρ : Nat → Obj → Prop} (hk : LibC ρ) {ca : Option Addr} {cc : Nat} (hF : FmR ρ ca [[1, -2], []]) : Con Tryz.prog ρ 17 #[.agg #[.int .i64 2, .slice ca 2 cc]] []
    (fun v H => v = .tuple #[.string ⟨#[112, 32, 99, 110, 102, 32, 50, 32, 50, 10, 49, 32, 45, 50, 32, 48, 10, 48, 10]⟩, .int .i64 0] ∧ H = []) :=
  (text_ok hk 2 ⟨by decide, by decide⟩ ca cc _ hF (by rw [exB_text]; decide)).mono fun v H h => by
    rw [if_pos exB_check, exB_text] at h
    exact h
theorem parse_exC {ρ : Nat → Obj → Prop} (hk : LibC ρ) : Con Tryz.prog ρ 21 #[.string ⟨#[112, 32, 99, 110, 102, 32, 49, 32, 49, 10, 50, 32, 48, 10]⟩] []
    (fun v H => v = .tuple #[.agg #[.int .i64 0, .slice none 0 0], .int .i64 2, .int .i64 14] ∧ H = []) :=
  (parse_ok hk txC (by decide)).mono fun v H h => by
    unfold ParR at h
    rw [exC_parse] at h
    exact h
theorem right_exA {ρ : Nat → Obj → Prop} {ca : Option Addr} {cc : Nat} (hF : FmR ρ ca FA) {xs : List Bool} (hx : xs.length = 3) {ma : Option Addr} {mc : Nat} (hm : RSl ρ 1 ma 3 (xs.map encB)) : Con Tryz.prog ρ 26 #[.agg #[.int .i64 3, .slice ca FA.length cc], .slice ma 3 mc] [] (fun v H => v = .bool (rightB 3 FA xs) ∧ H = []) := by
  have hm' : RSl ρ 1 ma xs.length (xs.map encB) := by rw [hx]; exact hm
  have := right_ok (cc := cc) (mc := mc) (n := 3) ⟨hF, ⟨by decide, by decide⟩, fun c hc => by have := exA_lens c hc; omega⟩ (fun h => small_Ok (by decide) (by decide) h) hm' (by omega)
  rwa [hx] at this

theorem awake36_ok {ρ : Nat → Obj → Prop} (hk : LibC ρ) : Con Tryz.prog ρ 15 #[] [] (fun v H => v = .bool true ∧ H = []) := by
  refine con_intro Tryz.func15 Tryz.call15 rfl Tryz.ntmps15 rfl (L := []) rfl fun w hh => ?_
  refine g_seq ?_
  refine g_region ?_
  refine g_pure (p_assign rfl) rfl ?_
  refine g_nil ?_
  refine g_qt ?_
  refine g_seq ?_
  refine g_region ?_
  refine g_pure (p_build (by rfl) rfl (by rfl)) rfl ?_
  refine g_pure (p_build (by rfl) rfl (by rfl)) rfl ?_
  refine g_pure (p_build (by rfl) rfl (by rfl)) rfl ?_
  refine g_eff (e_bs (xs := [.tmp 16, .tmp 17, .tmp 18]) rfl rfl rfl (by rfl) (by rfl) rfl (by rfl)) rfl (fun _ _ => ?_)
  rintro ⟨b19, rfl, rfl⟩
  refine g_call (Hin := []) (Hr := ?hr1) (R := ?rr1) rfl rfl rfl ?hin1 ?hc1 ?hk1
  case hin1 => repeat' (first | exact Cover.nil | exact Take.here | apply Cover.cons | apply Take.there)
  case hc1 => intro ρ' hρ hR; exact built_exA (RSl.of_blk (k := 3) hR.1.blk (by simp))
  rintro _ _ ⟨p, rfl, rfl⟩
  refine g_pure (p_move rfl) rfl ?_
  refine g_pure (p_extract rfl rfl) rfl ?_
  refine g_pure (p_extract rfl rfl) rfl ?_
  refine g_pure (p_assign rfl) rfl ?_
  refine g_pure (p_assign rfl) rfl ?_
  refine g_nil ?_
  refine g_qt ?_
  refine g_seq ?_
  refine g_region ?_
  refine g_pure (p_move rfl) rfl ?_
  refine g_eff (e_bs (xs := [.const (.int .i64 6)]) rfl rfl rfl (by rfl) (by rfl) rfl (by rfl)) rfl (fun _ _ => ?_)
  rintro ⟨b25, rfl, rfl⟩
  refine g_call (Hin := []) (Hr := ?hr2) (R := ?rr2) rfl rfl rfl ?hin2 ?hc2 ?hk2
  case hin2 => repeat' (first | exact Cover.nil | exact Take.here | apply Cover.cons | apply Take.there)
  case hc2 => intro ρ' hρ hR; exact of_exA (Take.ro (A := Gr p SA) (by repeat' (first | exact Take.here | apply Take.there)) hR) (RSl.of_blk (Take.ro (A := Blk b25 (.cells [encI 6].toArray 59 (0, 0))) (by repeat' (first | exact Take.here | apply Take.there)) hR).blk (Nat.le_refl _))
  rintro _ _ ⟨ca, cc, rfl, rfl⟩
  refine g_pure (p_move rfl) rfl ?_
  refine g_pure (p_extract rfl rfl) rfl ?_
  refine g_pure (p_extract rfl rfl) rfl ?_
  refine g_eff (e_alloc (by rfl)) rfl (fun _ _ => ?_)
  rintro ⟨b3, rfl, rfl⟩
  first | refine g_eff0 (e_storeO rfl rfl (by rfl) (by rfl) (by rfl) (by repeat' (first | exact Take.here | apply Take.there)) (by rfl)) (fun _ _ => ?_) | refine g_eff0 (e_storeN rfl rfl (by rfl) (by rfl) (by rfl) (by repeat' (first | exact Take.here | apply Take.there)) (by simp)) (fun _ _ => ?_)
  rintro rfl
  refine g_pure (p_assign rfl) rfl ?_
  refine g_nil ?_
  refine g_qt ?_
  refine g_seq ?_
  refine g_region ?_
  refine g_eff (e_bs (xs := [.const (.int .i64 6)]) rfl rfl rfl (by rfl) (by rfl) rfl (by rfl)) rfl (fun _ _ => ?_)
  rintro ⟨b30, rfl, rfl⟩
  refine g_call (Hin := []) (Hr := ?hr3) (R := ?rr3) rfl rfl rfl ?hin3 ?hc3 ?hk3
  case hin3 => repeat' (first | exact Cover.nil | exact Take.here | apply Cover.cons | apply Take.there)
  case hc3 => intro ρ' hρ hR; exact of_nil _ _ _
  rintro _ _ ⟨rfl, rfl⟩
  refine g_pure (p_move rfl) rfl ?_
  refine g_pure (p_extract rfl rfl) rfl ?_
  refine g_pure (p_extract rfl rfl) rfl ?_
  refine g_eff (e_alloc (by rfl)) rfl (fun _ _ => ?_)
  rintro ⟨b5, rfl, rfl⟩
  first | refine g_eff0 (e_storeO rfl rfl (by rfl) (by rfl) (by rfl) (by repeat' (first | exact Take.here | apply Take.there)) (by rfl)) (fun _ _ => ?_) | refine g_eff0 (e_storeN rfl rfl (by rfl) (by rfl) (by rfl) (by repeat' (first | exact Take.here | apply Take.there)) (by simp)) (fun _ _ => ?_)
  rintro rfl
  refine g_pure (p_assign rfl) rfl ?_
  refine g_nil ?_
  refine g_qt ?_
  refine g_seq ?_
  refine g_region ?_
  refine g_pure (p_move rfl) rfl ?_
  refine g_eff (e_bs (xs := [.const (.int .i64 8)]) rfl rfl rfl (by rfl) (by rfl) rfl (by rfl)) rfl (fun _ _ => ?_)
  rintro ⟨b36, rfl, rfl⟩
  refine g_call (Hin := []) (Hr := ?hr4) (R := ?rr4) rfl rfl rfl ?hin4 ?hc4 ?hk4
  case hin4 => repeat' (first | exact Cover.nil | exact Take.here | apply Cover.cons | apply Take.there)
  case hc4 => intro ρ' hρ hR; exact of_exE (Take.ro (A := Gr p SA) (by repeat' (first | exact Take.here | apply Take.there)) hR) (RSl.of_blk (Take.ro (A := Blk b36 (.cells [encI 8].toArray 59 (0, 0))) (by repeat' (first | exact Take.here | apply Take.there)) hR).blk (Nat.le_refl _))
  rintro _ _ ⟨rfl, rfl⟩
  refine g_pure (p_move rfl) rfl ?_
  refine g_pure (p_extract rfl rfl) rfl ?_
  refine g_pure (p_extract rfl rfl) rfl ?_
  refine g_eff (e_alloc (by rfl)) rfl (fun _ _ => ?_)
  rintro ⟨b7, rfl, rfl⟩
  first | refine g_eff0 (e_storeO rfl rfl (by rfl) (by rfl) (by rfl) (by repeat' (first | exact Take.here | apply Take.there)) (by rfl)) (fun _ _ => ?_) | refine g_eff0 (e_storeN rfl rfl (by rfl) (by rfl) (by rfl) (by repeat' (first | exact Take.here | apply Take.there)) (by simp)) (fun _ _ => ?_)
  rintro rfl
  refine g_pure (p_assign rfl) rfl ?_
  refine g_nil ?_
  refine g_qt ?_
  refine g_seq ?_
  refine g_region ?_
  refine g_eff (e_bs (xs := [.const (.int .i64 1), .const (.int .i64 (-2))]) rfl rfl rfl (by rfl) (by rfl) rfl (by rfl)) rfl (fun _ _ => ?_)
  rintro ⟨b41, rfl, rfl⟩
  refine g_eff (e_bs (xs := []) rfl rfl rfl (by rfl) (by rfl) rfl (by rfl)) rfl (fun _ _ => ?_)
  rintro ⟨b42, rfl, rfl⟩
  refine g_eff (e_bs (xs := [.tmp 41, .tmp 42]) rfl rfl rfl (by rfl) (by rfl) rfl (by rfl)) rfl (fun _ _ => ?_)
  rintro ⟨b43, rfl, rfl⟩
  refine g_pure (p_build (by rfl) rfl (by rfl)) rfl ?_
  refine g_call (Hin := []) (Hr := ?hr5) (R := ?rr5) rfl rfl rfl ?hin5 ?hc5 ?hk5
  case hin5 => repeat' (first | exact Cover.nil | exact Take.here | apply Cover.cons | apply Take.there)
  case hc5 => intro ρ' hρ hR; exact text_exB (hk.mono hρ) (exB_ro hR.1.blk (Take.ro (A := Blk b41 (.cells [encI 1, encI (-2)].toArray 3 (0, 0))) (by repeat' (first | exact Take.here | apply Take.there)) hR).blk (Take.ro (A := Blk b42 (.cells ([] : List Value).toArray 3 (0, 0))) (by repeat' (first | exact Take.here | apply Take.there)) hR).blk)
  rintro _ _ ⟨rfl, rfl⟩
  refine g_pure (p_move rfl) rfl ?_
  refine g_pure (p_extract rfl rfl) rfl ?_
  refine g_pure (p_extract rfl rfl) rfl ?_
  refine g_pure (p_assign rfl) rfl ?_
  refine g_pure (p_assign rfl) rfl ?_
  refine g_nil ?_
  refine g_qt ?_
  refine g_seq ?_
  refine g_region ?_
  refine g_call (Hin := []) (Hr := ?hr6) (R := ?rr6) rfl rfl rfl ?hin6 ?hc6 ?hk6
  case hin6 => repeat' (first | exact Cover.nil | exact Take.here | apply Cover.cons | apply Take.there)
  case hc6 => intro ρ' hρ hR; exact parse_exC (hk.mono hρ)
  rintro _ _ ⟨rfl, rfl⟩
  refine g_pure (p_move rfl) rfl ?_
  refine g_pure (p_extract rfl rfl) rfl ?_
  refine g_pure (p_extract rfl rfl) rfl ?_
  refine g_pure (p_extract rfl rfl) rfl ?_
  refine g_eff (e_alloc (by rfl)) rfl (fun _ _ => ?_)
  rintro ⟨b11, rfl, rfl⟩
  first | refine g_eff0 (e_storeO rfl rfl (by rfl) (by rfl) (by rfl) (by repeat' (first | exact Take.here | apply Take.there)) (by rfl)) (fun _ _ => ?_) | refine g_eff0 (e_storeN rfl rfl (by rfl) (by rfl) (by rfl) (by repeat' (first | exact Take.here | apply Take.there)) (by simp)) (fun _ _ => ?_)
  rintro rfl
  refine g_pure (p_assign rfl) rfl ?_
  refine g_pure (p_assign rfl) rfl ?_
  refine g_nil ?_
  refine g_qt ?_
  refine g_seq ?_
  refine g_region ?_
  refine g_eff (e_bs (xs := [.const (.int .i64 (-3)), .const (.int .i64 1)]) rfl rfl rfl (by rfl) (by rfl) rfl (by rfl)) rfl (fun _ _ => ?_)
  rintro ⟨b53, rfl, rfl⟩
  refine g_eff (e_bs (xs := [.const (.int .i64 (-3)), .const (.int .i64 2)]) rfl rfl rfl (by rfl) (by rfl) rfl (by rfl)) rfl (fun _ _ => ?_)
  rintro ⟨b54, rfl, rfl⟩
  refine g_eff (e_bs (xs := [.const (.int .i64 3), .const (.int .i64 (-1)), .const (.int .i64 (-2))]) rfl rfl rfl (by rfl) (by rfl) rfl (by rfl)) rfl (fun _ _ => ?_)
  rintro ⟨b55, rfl, rfl⟩
  refine g_eff (e_bs (xs := [.const (.int .i64 3)]) rfl rfl rfl (by rfl) (by rfl) rfl (by rfl)) rfl (fun _ _ => ?_)
  rintro ⟨b56, rfl, rfl⟩
  refine g_eff (e_bs (xs := [.tmp 53, .tmp 54, .tmp 55, .tmp 56]) rfl rfl rfl (by rfl) (by rfl) rfl (by rfl)) rfl (fun _ _ => ?_)
  rintro ⟨b57, rfl, rfl⟩
  refine g_pure (p_build (by rfl) rfl (by rfl)) rfl ?_
  refine g_eff (e_alloc (by rfl)) rfl (fun _ _ => ?_)
  rintro ⟨b14, rfl, rfl⟩
  first | refine g_eff0 (e_storeO rfl rfl (by rfl) (by rfl) (by rfl) (by repeat' (first | exact Take.here | apply Take.there)) (by rfl)) (fun _ _ => ?_) | refine g_eff0 (e_storeN rfl rfl (by rfl) (by rfl) (by rfl) (by repeat' (first | exact Take.here | apply Take.there)) (by simp)) (fun _ _ => ?_)
  rintro rfl
  refine g_nil ?_
  refine g_qt ?_
  refine g_seq ?_
  refine g_region ?_
  refine g_pure (p_move rfl) rfl ?_
  refine g_pure (p_eql rfl rfl) rfl ?_
  refine g_pure (p_move rfl) rfl ?_
  refine g_yes rfl rfl ?_
  refine g_pure (p_move rfl) rfl ?_
  refine g_yes rfl rfl ?_
  refine g_pure (p_eqlT rfl rfl rfl) rfl ?_
  first | refine g_pure (p_pickt rfl rfl) rfl ?_ | refine g_pure (p_pickf rfl rfl) rfl ?_
  refine g_pure (p_move rfl) rfl ?_
  refine g_yes rfl rfl ?_
  refine g_pure (p_move rfl) rfl ?_
  refine g_yes rfl rfl ?_
  refine g_pure (p_eqlT rfl rfl rfl) rfl ?_
  first | refine g_pure (p_pickt rfl rfl) rfl ?_ | refine g_pure (p_pickf rfl rfl) rfl ?_
  refine g_pure (p_move rfl) rfl ?_
  refine g_yes rfl rfl ?_
  refine g_pure (p_move rfl) rfl ?_
  refine g_yes rfl rfl ?_
  refine g_pure (p_eqlT rfl rfl rfl) rfl ?_
  first | refine g_pure (p_pickt rfl rfl) rfl ?_ | refine g_pure (p_pickf rfl rfl) rfl ?_
  refine g_pure (p_move rfl) rfl ?_
  refine g_yes rfl rfl ?_
  refine g_pure (p_move rfl) rfl ?_
  refine g_yes rfl rfl ?_
  refine g_pure (p_eqlT rfl rfl rfl) rfl ?_
  first | refine g_pure (p_pickt rfl rfl) rfl ?_ | refine g_pure (p_pickf rfl rfl) rfl ?_
  refine g_pure (p_move rfl) rfl ?_
  refine g_yes rfl rfl ?_
  refine g_pure (p_move rfl) rfl ?_
  refine g_yes rfl rfl ?_
  refine g_pure (p_eqlT rfl rfl rfl) rfl ?_
  first | refine g_pure (p_pickt rfl rfl) rfl ?_ | refine g_pure (p_pickf rfl rfl) rfl ?_
  refine g_pure (p_move rfl) rfl ?_
  refine g_yes rfl rfl ?_
  refine g_pure (p_move rfl) rfl ?_
  refine g_yes rfl rfl ?_
  refine g_pure (p_eqlsT (by rfl) rfl rfl rfl) rfl ?_
  first | refine g_pure (p_pickt rfl rfl) rfl ?_ | refine g_pure (p_pickf rfl rfl) rfl ?_
  refine g_pure (p_move rfl) rfl ?_
  refine g_yes rfl rfl ?_
  first | refine g_pure (p_loadO (by rfl) rfl (by first | (apply Has.own; (repeat' (first | exact Take.here | apply Take.there)); done) | exact Has.ro (by assumption)) (by rfl)) rfl ?_ | refine g_pure (p_loadN (by rfl) rfl (by first | (apply Has.own; (repeat' (first | exact Take.here | apply Take.there)); done) | exact Has.ro (by assumption)) (by first | rfl | assumption)) rfl ?_
  refine g_yes rfl rfl ?_
  first | refine g_pure (p_loadO (by rfl) rfl (by first | (apply Has.own; (repeat' (first | exact Take.here | apply Take.there)); done) | exact Has.ro (by assumption)) (by rfl)) rfl ?_ | refine g_pure (p_loadN (by rfl) rfl (by first | (apply Has.own; (repeat' (first | exact Take.here | apply Take.there)); done) | exact Has.ro (by assumption)) (by first | rfl | assumption)) rfl ?_
  refine g_yes rfl rfl ?_
  refine g_call (Hin := []) (Hr := ?hr7) (R := ?rr7) rfl rfl rfl ?hin7 ?hc7 ?hk7
  case hin7 => repeat' (first | exact Cover.nil | exact Take.here | apply Cover.cons | apply Take.there)
  case hc7 => intro ρ' hρ hR; exact dsame_ok 3 ca (some ⟨b57, 0, none⟩) cc 4 FA ⟨Own2.ro (Take.ro (A := Own2 79 3 ca cc (FA.map encCl)) (by repeat' (first | exact Take.here | apply Take.there)) hR), by decide, fun c hc => by (have := exA_lens c hc; omega), exA_lits⟩ (exA_ro (Take.ro (A := Blk b57 (.cells [.slice (some ⟨b53, 0, none⟩) 2 2, .slice (some ⟨b54, 0, none⟩) 2 2, .slice (some ⟨b55, 0, none⟩) 3 3, .slice (some ⟨b56, 0, none⟩) 1 1].toArray 79 (0, 0))) (by repeat' (first | exact Take.here | apply Take.there)) hR).blk (Take.ro (A := Blk b53 (.cells [encI (-3), encI 1].toArray 3 (0, 0))) (by repeat' (first | exact Take.here | apply Take.there)) hR).blk (Take.ro (A := Blk b54 (.cells [encI (-3), encI 2].toArray 3 (0, 0))) (by repeat' (first | exact Take.here | apply Take.there)) hR).blk (Take.ro (A := Blk b55 (.cells [encI 3, encI (-1), encI (-2)].toArray 3 (0, 0))) (by repeat' (first | exact Take.here | apply Take.there)) hR).blk (Take.ro (A := Blk b56 (.cells [encI 3].toArray 3 (0, 0))) (by repeat' (first | exact Take.here | apply Take.there)) hR).blk)
  rintro _ _ ⟨rfl, rfl⟩
  first | refine g_pure (p_pickt rfl rfl) rfl ?_ | refine g_pure (p_pickf rfl rfl) rfl ?_
  refine g_pure (p_move rfl) rfl ?_
  refine g_yes rfl rfl ?_
  first | refine g_pure (p_loadO (by rfl) rfl (by first | (apply Has.own; (repeat' (first | exact Take.here | apply Take.there)); done) | exact Has.ro (by assumption)) (by rfl)) rfl ?_ | refine g_pure (p_loadN (by rfl) rfl (by first | (apply Has.own; (repeat' (first | exact Take.here | apply Take.there)); done) | exact Has.ro (by assumption)) (by first | rfl | assumption)) rfl ?_
  refine g_yes rfl rfl ?_
  refine g_eff (e_bs (xs := [.const (.bool true), .const (.bool true), .const (.bool true)]) rfl rfl rfl (by rfl) (by rfl) rfl (by rfl)) rfl (fun _ _ => ?_)
  rintro ⟨b92, rfl, rfl⟩
  refine g_yes rfl rfl ?_
  refine g_call (Hin := []) (Hr := ?hr8) (R := ?rr8) rfl rfl rfl ?hin8 ?hc8 ?hk8
  case hin8 => repeat' (first | exact Cover.nil | exact Take.here | apply Cover.cons | apply Take.there)
  case hc8 => intro ρ' hρ hR; exact right_exA (cc := cc) ⟨Own2.ro (Take.ro (A := Own2 79 3 ca cc (FA.map encCl)) (by repeat' (first | exact Take.here | apply Take.there)) hR), by decide, fun c hc => by (have := exA_lens c hc; omega), exA_lits⟩ (xs := [true, true, true]) rfl (.of_blk (Take.ro (A := Blk b92 (.cells ([true, true, true].map encB).toArray 4 (0, 0))) (by repeat' (first | exact Take.here | apply Take.there)) hR).blk (Nat.le_refl _))
  rintro _ _ ⟨rfl, rfl⟩
  first | refine g_pure (p_pickt rfl rfl) rfl ?_ | refine g_pure (p_pickf rfl rfl) rfl ?_
  refine g_pure (p_move rfl) rfl ?_
  refine g_yes rfl rfl ?_
  first | refine g_pure (p_loadO (by rfl) rfl (by first | (apply Has.own; (repeat' (first | exact Take.here | apply Take.there)); done) | exact Has.ro (by assumption)) (by rfl)) rfl ?_ | refine g_pure (p_loadN (by rfl) rfl (by first | (apply Has.own; (repeat' (first | exact Take.here | apply Take.there)); done) | exact Has.ro (by assumption)) (by first | rfl | assumption)) rfl ?_
  refine g_yes rfl rfl ?_
  refine g_eff (e_bs (xs := [.const (.bool true), .const (.bool true), .const (.bool false)]) rfl rfl rfl (by rfl) (by rfl) rfl (by rfl)) rfl (fun _ _ => ?_)
  rintro ⟨b97, rfl, rfl⟩
  refine g_yes rfl rfl ?_
  refine g_call (Hin := []) (Hr := ?hr9) (R := ?rr9) rfl rfl rfl ?hin9 ?hc9 ?hk9
  case hin9 => repeat' (first | exact Cover.nil | exact Take.here | apply Cover.cons | apply Take.there)
  case hc9 => intro ρ' hρ hR; exact right_exA (cc := cc) ⟨Own2.ro (Take.ro (A := Own2 79 3 ca cc (FA.map encCl)) (by repeat' (first | exact Take.here | apply Take.there)) hR), by decide, fun c hc => by (have := exA_lens c hc; omega), exA_lits⟩ (xs := [true, true, false]) rfl (.of_blk (Take.ro (A := Blk b97 (.cells ([true, true, false].map encB).toArray 4 (0, 0))) (by repeat' (first | exact Take.here | apply Take.there)) hR).blk (Nat.le_refl _))
  rintro _ _ ⟨rfl, rfl⟩
  refine g_yes rfl rfl ?_
  refine g_pure (p_not rfl) rfl ?_
  first | refine g_pure (p_pickt rfl rfl) rfl ?_ | refine g_pure (p_pickf rfl rfl) rfl ?_
  refine g_pure (p_move rfl) rfl ?_
  refine g_yes rfl rfl ?_
  first | refine g_pure (p_loadO (by rfl) rfl (by first | (apply Has.own; (repeat' (first | exact Take.here | apply Take.there)); done) | exact Has.ro (by assumption)) (by rfl)) rfl ?_ | refine g_pure (p_loadN (by rfl) rfl (by first | (apply Has.own; (repeat' (first | exact Take.here | apply Take.there)); done) | exact Has.ro (by assumption)) (by first | rfl | assumption)) rfl ?_
  refine g_yes rfl rfl ?_
  refine g_call (Hin := []) (Hr := ?hr10) (R := ?rr10) rfl rfl rfl ?hin10 ?hc10 ?hk10
  case hin10 => repeat' (first | exact Cover.nil | exact Take.here | apply Cover.cons | apply Take.there)
  case hc10 => intro ρ' hρ hR; exact check_ok 3 ⟨by decide, by decide⟩ ca cc FA ⟨Own2.ro (Take.ro (A := Own2 79 3 ca cc (FA.map encCl)) (by repeat' (first | exact Take.here | apply Take.there)) hR), by decide, fun c hc => by (have := exA_lens c hc; omega), exA_lits⟩
  rintro _ _ ⟨rfl, rfl⟩
  refine g_yes rfl rfl ?_
  refine g_pure (p_eqlT rfl rfl rfl) rfl ?_
  first | refine g_pure (p_pickt rfl rfl) rfl ?_ | refine g_pure (p_pickf rfl rfl) rfl ?_
  refine g_pure (p_assign rfl) rfl ?_
  refine g_nil ?_
  refine g_qt ?_
  refine g_ret ?_
  exact g_post (Ho := []) (rs := [.tmp 0]) rfl (.tmp rfl .nil) ⟨rfl, rfl⟩ .nil
end Go.Proofs.YtopgbgnmjogeeaaGreatDoor
/- Chapter 36: the document's reading of a text; CnfParses. Conditions: what the library's variables hold (LibC). -/
namespace Go.Z.Txt
set_option maxRecDepth 8000
set_option linter.unusedVariables false
set_option linter.unusedSimpArgs false
set_option linter.unusedSectionVars false
open Go Go.Lib Go.Z.Val Go.Z.Sat Go.Proofs.YtopgbgnmjogeeaaGreatDoor
theorem body_err {vars : Int} : ∀ (k : Nat) (rest : List UInt8) (line : Int) {a e : Int}, bodyV vars k rest line = .error (a, e) → e ≠ 0
  | 0, rest, line, a, e, h => by
    rw [bodyV] at h
    split at h
    · cases h
    · injection h with h; injection h with h1 h2; omega
  | k + 1, rest, line, a, e, h => by
    rw [bodyV] at h
    rcases cut_or 10 rest with hf | ⟨s, r, rfl, hf⟩
    · rw [cut_free hf] at h; injection h with h; injection h with h1 h2; omega
    · rw [cut_hit r hf] at h
      dsimp only at h
      cases hW : wordsV (pieces 32 s) with
      | none => rw [hW] at h; injection h with h; injection h with h1 h2; omega
      | some c =>
        rw [hW] at h
        dsimp only at h
        split at h
        · injection h with h; injection h with h1 h2; omega
        · cases hb : bodyV vars k r (line + 1) with
          | error p =>
            obtain ⟨a', e'⟩ := p
            rw [hb] at h
            simp only [Except.map] at h
            injection h with h
            injection h with h1 h2
            subst h2
            exact body_err k r (line + 1) hb
          | ok G => rw [hb] at h; cases h
theorem parse_err {t : List UInt8} {a e : Int} (h : parseV t = .error (a, e)) : e ≠ 0 := by
  unfold parseV at h
  rcases cut_or 10 t with hf | ⟨s, r, rfl, hf⟩
  · rw [cut_free hf] at h; injection h with h; injection h with h1 h2; omega
  · rw [cut_hit r hf] at h
    dsimp only at h
    cases hH : headV s with
    | error e' => rw [hH] at h; injection h with h; injection h with h1 h2; subst h2; exact headV_err hH
    | ok p =>
      obtain ⟨x, y⟩ := p
      rw [hH] at h
      dsimp only at h
      cases hB : bodyV x y.toNat r 1 with
      | error p =>
        obtain ⟨a', e'⟩ := p
        rw [hB] at h
        simp only [Except.map] at h
        injection h with h
        injection h with h1 h2
        subst h2
        exact body_err _ _ _ hB
      | ok G => rw [hB] at h; cases h
theorem line_ge : ∀ c : List Int, c.length ≤ (lineT c).length
  | [] => by simp
  | x :: c => by
    have ih := line_ge c
    simp only [lineT, List.map_cons, List.flatten_cons, List.length_append, List.length_cons, List.length_nil] at ih ⊢
    omega
theorem body_ge : ∀ (F : List (List Int)) (c : List Int), c ∈ F → c.length ≤ ((F.map fun c => lineT c ++ [10]).flatten).length
  | d :: F, c, h => by
    rw [List.map_cons, List.flatten_cons, List.length_append, List.length_append]
    rcases List.mem_cons.1 h with rfl | h
    · have := line_ge c; omega
    · have := body_ge F c h; omega
theorem text_ge {n : Int} {F : List (List Int)} {c : List Int} (h : c ∈ F) : c.length ≤ (textV n F).length := by
  have := body_ge F c h
  unfold textV
  rw [List.length_append]; omega
theorem check_one {n : Int} (h0 : 0 ≤ n) (h1 : n ≤ 262144) {c : List Int} (hc : ∀ x ∈ c, x ≠ 0) : check1 n [c] = if farV n c = true then 14 else 0 := by
  unfold check1
  rw [if_neg (by omega), if_neg (by omega)]
  have e : allB n [c] = !farV n c := by
    unfold allB farV
    simp only [List.all_cons, List.all_nil, Bool.and_true]
    induction c with
    | nil => rfl
    | cons x c ih =>
      rw [List.all_cons, List.any_cons, ih fun y hy => hc y (by simp [hy])]
      have := hc x (by simp)
      unfold okB
      rw [decide_eq_false this, Bool.false_or, Bool.not_or]
      cases decide (n < x) <;> cases decide (x < -n) <;> rfl
  rw [e]
  cases farV n c <;> rfl
theorem check_zero {n : Int} (h0 : 0 ≤ n) (h1 : n ≤ 262144) {F : List (List Int)} (hc : ∀ c ∈ F, ∀ x ∈ c, x ≠ 0 ∧ -n ≤ x ∧ x ≤ n) : check1 n F = 0 := by
  unfold check1
  rw [if_neg (by omega), if_neg (by omega), if_pos]
  unfold allB
  rw [List.all_eq_true]
  intro c hcm
  rw [List.all_eq_true]
  intro x hx
  have := hc c hcm x hx
  unfold okB
  rw [decide_eq_false (by omega), decide_eq_false (by omega), decide_eq_false (by omega)]; rfl
end Go.Z.Txt
namespace Go.Proofs.YtopgbgnmjogeeaaGreatDoor
set_option maxRecDepth 8000
set_option linter.unusedVariables false
set_option linter.unusedSimpArgs false
set_option linter.unusedSectionVars false
open Go Go.Z Go.Z.Txt Go.Z.Sat Go.Z.Val Go.Z.Aig Go.Z.Tse

theorem one_ro {ρ : Nat → Obj → Prop} {b cap : Nat} {a : Option Addr} {T : TypeId} {f : Nat × Nat} {c : List Int} (r0 : ρ b (.cells [.slice a c.length cap].toArray T f)) (hl : c.length ≤ 1000000) (hI : ∀ x ∈ c, I64 x) (hr : RSl ρ 1 a c.length (c.map encI)) : FmR ρ (some ⟨b, 0, none⟩) [c] := by
  refine ⟨⟨[.slice a c.length cap], ⟨rfl, fun j hj => ?_⟩, ?_⟩, by simp, fun d hd => by rw [List.mem_singleton.1 hd]; omega, fun d hd => by rw [List.mem_singleton.1 hd]; exact hI⟩
  · match j, hj with
    | 0, _ =>
      refine ⟨a, cap, ?_, ?_⟩
      · show some _ = some (Value.slice a (c.map encI).length cap)
        rw [List.length_map]
      · show RSl ρ 1 a (c.map encI).length (c.map encI)
        rw [List.length_map]; exact hr
  · exact RSl.of_blk (k := 1) r0 (by simp)
theorem nil_ro {ρ : Nat → Obj → Prop} : FmR ρ none [] := ⟨⟨[], ⟨rfl, fun j hj => absurd hj (Nat.not_lt_zero j)⟩, rfl, 0, 0, [], 0, (0, 0), fun h => absurd h (by decide)⟩, by decide, fun c hc => absurd hc List.not_mem_nil, fun c hc => absurd hc List.not_mem_nil⟩

theorem dparse36_ok {ρ : Nat → Obj → Prop} (t : List UInt8) (hs : t.length ≤ 100000) : Con Tryz.prog ρ 22 #[.string (strOf t)] [] (ParR t) := by
  have hPL := parse_lines t
  have hpl := pieces_len 10 t
  have hne := pieces_ne 10 t
  have hmem : ∀ x ∈ pieces 10 t, x.length ≤ t.length := fun x hx => (pieces_mem hx).2
  refine con_intro Tryz.func22 Tryz.call22 rfl Tryz.ntmps22 rfl (L := [(0, _)]) rfl fun w hh => ?_
  refine g_seq ?_
  refine g_region ?_
  refine g_eff (e_alloc (by rfl)) rfl (fun _ _ => ?_)
  rintro ⟨b2, rfl, rfl⟩
  refine g_pure (p_assign rfl) rfl ?_
  refine g_pure (p_assign rfl) rfl ?_
  refine g_nil ?_
  refine g_qt ?_
  refine g_seq ?_
  refine g_region ?_
  refine g_pure (p_move rfl) rfl ?_
  refine g_call (Hin := []) (Hr := ?hr1) (R := ?rr1) rfl rfl rfl ?hin1 ?hc1 ?hk1
  case hin1 => repeat' (first | exact Cover.nil | exact Take.here | apply Cover.cons | apply Take.there)
  case hc1 => intro ρ' hρ hR; exact lines_ok t (by omega)
  rintro _ _ ⟨wa, wc, rfl, rfl⟩
  generalize pieces 10 t = W at hPL hpl hne hmem ⊢
  have hpos : 0 < W.length := List.length_pos_iff.2 hne
  refine g_pure (p_assign rfl) rfl ?_
  refine g_nil ?_
  refine g_qt ?_
  refine g_seq ?_
  refine g_region ?_
  refine g_pure (p_move rfl) rfl ?_
  refine g_pure (p_len (by rfl) rfl) rfl ?_
  first | refine g_pure (p_subi rfl rfl (by omega)) rfl ?_ | refine g_pure (p_sub rfl rfl) rfl ?_
  refine g_pure (p_assign rfl) rfl ?_
  refine g_nil ?_
  refine g_qt ?_
  refine g_seq ?_
  refine g_seq ?_
  refine g_region ?_
  refine g_pure (p_move rfl) rfl ?_
  refine g_pure (p_lss rfl rfl) rfl ?_
  refine g_nil ?_
  refine g_qt ?_
  refine g_ifd rfl (fun h1 => ?_) (fun h1 => ?_)
  · obtain ⟨x0, rfl⟩ : ∃ x0, W = [x0] := by
      match W, hpos, h1 with
      | [a], _, _ => exact ⟨a, rfl⟩
      | _ :: _ :: _, _, h1 => simp at h1; omega
    refine g_seq ?_
    refine g_region ?_
    refine g_pure (p_build (by rfl) rfl (by rfl)) rfl ?_
    first | refine g_eff0 (e_storeO rfl rfl (by rfl) (by rfl) (by rfl) (by repeat' (first | exact Take.here | apply Take.there)) (by rfl)) (fun _ _ => ?_) | refine g_eff0 (e_storeN rfl rfl (by rfl) (by rfl) (by rfl) (by repeat' (first | exact Take.here | apply Take.there)) (by simp)) (fun _ _ => ?_)
    rintro rfl
    refine g_pure (p_assign rfl) rfl ?_
    refine g_pure (p_assign rfl) rfl ?_
    refine g_nil ?_
    refine g_qt ?_
    refine g_ret ?_
    refine g_qt_ret ?_
    exact g_post (Ho := []) (rs := [.cell 2 30, .tmp 3, .tmp 4]) rfl (Res.cellN (by rfl) rfl (Has.own (by repeat' (first | exact Take.here | apply Take.there))) (by rfl) (.tmp rfl (.tmp rfl .nil))) (ParR.err hPL) (by repeat' (first | exact Cover.nil | exact Take.here | apply Cover.cons | apply Take.there))
  · obtain ⟨L0, L1, R, hW⟩ : ∃ L0 L1 R, W = L0 :: L1 :: R := by
      match W, hpos, h1 with
      | [_], _, h1 => simp at h1
      | a :: b :: r, _, _ => exact ⟨a, b, r, rfl⟩
    have hPL2 := hPL
    rw [hW] at hPL2
    dsimp only at hPL2
    have hW1 : W.drop 1 = L1 :: R := by rw [hW]; rfl
    have hl0 := hmem L0 (by rw [hW]; simp)
    refine g_own (e := 9) (xs := W.map encS) (by repeat' (first | exact Take.here | apply Take.there)) (fun _ h _ _ => absurd h (by omega)) (fun g cur r1 r2 r3 r4 r5 r6 => ?_)
    subst r1
    have hcur : ∀ (i : Nat) (hi : i < W.length), cur[0 + (i : Int).toNat * 1]? = some (.string (strOf W[i])) := fun i hi => own_at (k := i) r5 (by simp) (by simp [List.getElem?_eq_getElem hi, encS])
    have hc0 : cur[0 + (0 : Int).toNat * 1]? = some (.string (strOf L0)) := by
      have := hcur 0 hpos
      simpa [hW] using this
    refine g_skip ?_
    refine g_qt ?_
    refine g_seq ?_
    refine g_region ?_
    refine g_pure (p_move rfl) rfl ?_
    refine g_pure (p_indexAddr rfl rfl (by omega) (fun _ => rfl)) rfl ?_
    refine g_pure (p_load (by rfl) rfl (Has.own (by repeat' (first | exact Take.here | apply Take.there))) hc0) rfl ?_
    cases hH : headD L0 with
    | none =>
      rw [hH] at hPL2
      refine g_call (Hin := []) (Hr := ?hr2) (R := ?rr2) rfl rfl rfl ?hin2 ?hc2 ?hk2
      case hin2 => repeat' (first | exact Cover.nil | exact Take.here | apply Cover.cons | apply Take.there)
      case hc2 => intro ρ' hρ hR; exact (dhead_ok L0 (by omega)).mono (R' := fun v H => (∃ x y, v = .tuple #[.int .i64 x, .int .i64 y, .bool false]) ∧ H = []) (fun v H h => by unfold HeD at h; rw [hH] at h; exact h)
      rintro _ _ ⟨⟨x, y, rfl⟩, rfl⟩
      refine g_pure (p_move rfl) rfl ?_
      refine g_pure (p_extract rfl rfl) rfl ?_
      refine g_pure (p_extract rfl rfl) rfl ?_
      refine g_pure (p_extract rfl rfl) rfl ?_
      refine g_pure (p_assign rfl) rfl ?_
      refine g_pure (p_assign rfl) rfl ?_
      refine g_pure (p_assign rfl) rfl ?_
      refine g_nil ?_
      refine g_qt ?_
      refine g_seq ?_
      refine g_seq ?_
      refine g_region ?_
      refine g_pure (p_move rfl) rfl ?_
      refine g_pure (p_not rfl) rfl ?_
      refine g_nil ?_
      refine g_qt ?_
      refine g_ift rfl ?_
      refine g_seq ?_
      refine g_region ?_
      refine g_pure (p_build (by rfl) rfl (by rfl)) rfl ?_
      first | refine g_eff0 (e_storeO rfl rfl (by rfl) (by rfl) (by rfl) (by repeat' (first | exact Take.here | apply Take.there)) (by rfl)) (fun _ _ => ?_) | refine g_eff0 (e_storeN rfl rfl (by rfl) (by rfl) (by rfl) (by repeat' (first | exact Take.here | apply Take.there)) (by simp)) (fun _ _ => ?_)
      rintro rfl
      refine g_pure (p_assign rfl) rfl ?_
      refine g_pure (p_assign rfl) rfl ?_
      refine g_nil ?_
      refine g_qt ?_
      refine g_ret ?_
      refine g_qt_ret ?_
      exact g_post (Ho := []) (rs := [.cell 2 30, .tmp 3, .tmp 4]) rfl (Res.cellN (by rfl) rfl (Has.own (by repeat' (first | exact Take.here | apply Take.there))) (by rfl) (.tmp rfl (.tmp rfl .nil))) (ParR.err hPL2) (by repeat' (first | exact Cover.nil | exact Take.here | apply Cover.cons | apply Take.there))
    | some p =>
      obtain ⟨x, y⟩ := p
      obtain ⟨hx0, hy0, hx1, hy1⟩ := headD_some hH
      rw [hH] at hPL2
      dsimp only at hPL2
      refine g_call (Hin := []) (Hr := ?hr3) (R := ?rr3) rfl rfl rfl ?hin3 ?hc3 ?hk3
      case hin3 => repeat' (first | exact Cover.nil | exact Take.here | apply Cover.cons | apply Take.there)
      case hc3 => intro ρ' hρ hR; exact (dhead_ok L0 (by omega)).mono (R' := fun v H => v = .tuple #[.int .i64 x, .int .i64 y, .bool true] ∧ H = []) (fun v H h => by unfold HeD at h; rw [hH] at h; exact h)
      rintro _ _ ⟨rfl, rfl⟩
      refine g_pure (p_move rfl) rfl ?_
      refine g_pure (p_extract rfl rfl) rfl ?_
      refine g_pure (p_extract rfl rfl) rfl ?_
      refine g_pure (p_extract rfl rfl) rfl ?_
      refine g_pure (p_assign rfl) rfl ?_
      refine g_pure (p_assign rfl) rfl ?_
      refine g_pure (p_assign rfl) rfl ?_
      refine g_nil ?_
      refine g_qt ?_
      refine g_seq ?_
      refine g_seq ?_
      refine g_region ?_
      refine g_pure (p_move rfl) rfl ?_
      refine g_pure (p_not rfl) rfl ?_
      refine g_nil ?_
      refine g_qt ?_
      refine g_iff rfl ?_
      refine g_skip ?_
      refine g_qt ?_
      refine g_seq ?_
      refine g_seq ?_
      refine g_region ?_
      refine g_pure (p_move rfl) rfl ?_
      refine g_pure (p_gtr rfl rfl) rfl ?_
      refine g_nil ?_
      refine g_qt ?_
      refine g_ifd rfl (fun h2 => ?_) (fun h2 => ?_)
      · rw [if_pos (by omega)] at hPL2
        refine g_seq ?_
        refine g_region ?_
        refine g_pure (p_build (by rfl) rfl (by rfl)) rfl ?_
        first | refine g_eff0 (e_storeO rfl rfl (by rfl) (by rfl) (by rfl) (by repeat' (first | exact Take.here | apply Take.there)) (by rfl)) (fun _ _ => ?_) | refine g_eff0 (e_storeN rfl rfl (by rfl) (by rfl) (by rfl) (by repeat' (first | exact Take.here | apply Take.there)) (by simp)) (fun _ _ => ?_)
        rintro rfl
        refine g_pure (p_assign rfl) rfl ?_
        refine g_pure (p_assign rfl) rfl ?_
        refine g_nil ?_
        refine g_qt ?_
        refine g_ret ?_
        refine g_qt_ret ?_
        exact g_post (Ho := []) (rs := [.cell 2 30, .tmp 3, .tmp 4]) rfl (Res.cellN (by rfl) rfl (Has.own (by repeat' (first | exact Take.here | apply Take.there))) (by rfl) (.tmp rfl (.tmp rfl .nil))) (ParR.err hPL2) (by repeat' (first | exact Cover.nil | exact Take.here | apply Cover.cons | apply Take.there))
      · rw [if_neg (by omega), ← hW1] at hPL2
        refine g_skip ?_
        refine g_qt ?_
        refine g_seq ?_
        refine g_region ?_
        refine g_pure (p_move rfl) rfl ?_
        refine g_pure (p_build (by rfl) rfl (by rfl)) rfl ?_
        refine g_eff (e_alloc (by rfl)) rfl (fun _ _ => ?_)
        rintro ⟨b10, rfl, rfl⟩
        first | refine g_eff0 (e_storeO rfl rfl (by rfl) (by rfl) (by rfl) (by repeat' (first | exact Take.here | apply Take.there)) (by rfl)) (fun _ _ => ?_) | refine g_eff0 (e_storeN rfl rfl (by rfl) (by rfl) (by rfl) (by repeat' (first | exact Take.here | apply Take.there)) (by simp)) (fun _ _ => ?_)
        rintro rfl
        refine g_nil ?_
        refine g_qt ?_
        refine g_seq ?_
        refine g_seq ?_
        refine g_region ?_
        refine g_pure (p_assign rfl) rfl ?_
        refine g_nil ?_
        refine g_qt ?_
        refine g_block ?_
        refine g_ownnil (e := 79) (size := 1) ?_
        refine g_nils (eo := 79) (ei := 3) (a := none) (k := 0) (cap := 0) .here ?_
        refine g_loop (fun q : Nat × List (List Int) × Option Addr × Nat => [(2, .pointer (some ⟨b2, 0, none⟩)), (5, .slice (some ⟨g, 0, none⟩) W.length wc), (6, .int .i64 ((W.length : Int) - 1)), (7, .int .i64 x), (8, .int .i64 y), (10, .pointer (some ⟨b10, 0, none⟩)), (11, .int .i64 q.1)])
          (fun q => [Blk b2 (.cells [.int .i64 0, .slice none 0 0].toArray 30 (0, 0)), Blk b10 (.cells [.int .i64 x, .slice q.2.2.1 q.2.1.length q.2.2.2].toArray 30 (0, 0)), Blk g (.cells cur.toArray 9 (0, 0)), Own2 79 3 q.2.2.1 q.2.2.2 (q.2.1.map encCl)])
          (fun q => q.1 + 1 ≤ W.length ∧ q.1 ≤ y.toNat + 1 ∧ q.2.1.length + 1 = q.1 ∧ parseV t = ((bodyL x (y.toNat + 1 - q.1) (W.drop q.1) q.1).map (q.2.1 ++ ·)).map (x, ·))
          (fun q => W.length - q.1) (1, [], none, 0) ⟨by dsimp only; omega, by dsimp only; omega, rfl, by dsimp only; rw [hPL2]; exact congrArg _ (map_nila _).symm⟩ (by (repeat (first | exact trivial | refine ⟨by rfl, ?_⟩)); done) (by repeat' (first | exact Cover.nil | exact Take.here | apply Cover.cons | apply Take.there)) ?_
        rintro ⟨i, F, ca, cc⟩ ⟨hi, hiy, hFi, hI⟩
        dsimp only at hi hiy hFi hI ⊢
        have hil : i < W.length := by omega
        refine g_seq ?_
        refine g_seq ?_
        refine g_region ?_
        refine g_pure (p_move rfl) rfl ?_
        refine g_pure (p_move rfl) rfl ?_
        refine g_pure (p_leq rfl rfl) rfl ?_
        refine g_nil ?_
        refine g_qt ?_
        refine g_ifd rfl (fun q => ?_) (fun q => ?_)
        · obtain ⟨k, hk1⟩ : ∃ k, y.toNat + 1 - i = k + 1 := ⟨y.toNat - i, by omega⟩
          rw [hk1, List.drop_eq_getElem_cons hil] at hI
          have hwl := hmem W[i] (List.getElem_mem hil)
          refine g_skip ?_
          refine g_qt ?_
          refine g_seq ?_
          refine g_block ?_
          refine g_seq ?_
          refine g_seq ?_
          refine g_region ?_
          refine g_pure (p_move rfl) rfl ?_
          refine g_pure (p_move rfl) rfl ?_
          refine g_pure (p_geq rfl rfl) rfl ?_
          refine g_nil ?_
          refine g_qt ?_
          refine g_ifd rfl (fun q2 => ?_) (fun q2 => ?_)
          · rw [List.drop_of_length_le (by omega), bodyL_one] at hI
            refine g_seq ?_
            refine g_region ?_
            refine g_pure (p_build (by rfl) rfl (by rfl)) rfl ?_
            refine g_pure (p_move rfl) rfl ?_
            first | refine g_pure (p_addi rfl rfl (by omega)) rfl ?_ | refine g_pure (p_add rfl rfl) rfl ?_
            first | refine g_eff0 (e_storeO rfl rfl (by rfl) (by rfl) (by rfl) (by repeat' (first | exact Take.here | apply Take.there)) (by rfl)) (fun _ _ => ?_) | refine g_eff0 (e_storeN rfl rfl (by rfl) (by rfl) (by rfl) (by repeat' (first | exact Take.here | apply Take.there)) (by simp)) (fun _ _ => ?_)
            rintro rfl
            refine g_pure (p_assign rfl) rfl ?_
            refine g_pure (p_assign rfl) rfl ?_
            refine g_nil ?_
            refine g_qt ?_
            refine g_ret ?_
            refine g_qt_ret ?_
            refine g_qb_ret ?_
            refine g_qt_ret ?_
            refine g_qn_ret ?_
            refine g_qb_ret ?_
            refine g_qt_ret ?_
            exact g_post (Ho := []) (rs := [.cell 2 30, .tmp 3, .tmp 4]) rfl (Res.cellN (by rfl) rfl (Has.own (by repeat' (first | exact Take.here | apply Take.there))) (by rfl) (.tmp rfl (.tmp rfl .nil))) (ParR.err (by rw [hI]; rfl)) (by repeat' (first | exact Cover.nil | exact Take.here | apply Cover.cons | apply Take.there))
          · have hil1 : i + 1 < W.length := by omega
            rw [List.drop_eq_getElem_cons hil1, bodyL_two, ← List.drop_eq_getElem_cons hil1, ← words_doc] at hI
            refine g_skip ?_
            refine g_qt ?_
            refine g_seq ?_
            refine g_region ?_
            refine g_pure (p_move rfl) rfl ?_
            refine g_pure (p_move rfl) rfl ?_
            refine g_pure (p_indexAddr rfl rfl (by omega) (fun _ => rfl)) rfl ?_
            refine g_pure (p_load (by rfl) rfl (Has.own (by repeat' (first | exact Take.here | apply Take.there))) (hcur i hil)) rfl ?_
            cases hV : wordsV (wordsD W[i]) with
            | none =>
              rw [hV] at hI
              dsimp only at hI
              refine g_call (Hin := []) (Hr := ?hr4) (R := ?rr4) rfl rfl rfl ?hin4 ?hc4 ?hk4
              case hin4 => repeat' (first | exact Cover.nil | exact Take.here | apply Cover.cons | apply Take.there)
              case hc4 => intro ρ' hρ hR; exact (dclause_ok W[i] (by omega)).mono (R' := fun v H => (∃ a k cap, v = .tuple #[.slice a k cap, .bool false]) ∧ H = []) (fun v H h => by unfold ClD at h; rw [hV] at h; exact h)
              rintro _ _ ⟨⟨a0, k0, cap0, rfl⟩, rfl⟩
              refine g_pure (p_move rfl) rfl ?_
              refine g_pure (p_extract rfl rfl) rfl ?_
              refine g_pure (p_extract rfl rfl) rfl ?_
              refine g_pure (p_assign rfl) rfl ?_
              refine g_pure (p_assign rfl) rfl ?_
              refine g_nil ?_
              refine g_qt ?_
              refine g_seq ?_
              refine g_seq ?_
              refine g_region ?_
              refine g_pure (p_move rfl) rfl ?_
              refine g_pure (p_not rfl) rfl ?_
              refine g_nil ?_
              refine g_qt ?_
              refine g_ift rfl ?_
              refine g_seq ?_
              refine g_region ?_
              refine g_pure (p_build (by rfl) rfl (by rfl)) rfl ?_
              refine g_pure (p_move rfl) rfl ?_
              first | refine g_pure (p_addi rfl rfl (by omega)) rfl ?_ | refine g_pure (p_add rfl rfl) rfl ?_
              first | refine g_eff0 (e_storeO rfl rfl (by rfl) (by rfl) (by rfl) (by repeat' (first | exact Take.here | apply Take.there)) (by rfl)) (fun _ _ => ?_) | refine g_eff0 (e_storeN rfl rfl (by rfl) (by rfl) (by rfl) (by repeat' (first | exact Take.here | apply Take.there)) (by simp)) (fun _ _ => ?_)
              rintro rfl
              refine g_pure (p_assign rfl) rfl ?_
              refine g_pure (p_assign rfl) rfl ?_
              refine g_nil ?_
              refine g_qt ?_
              refine g_ret ?_
              refine g_qt_ret ?_
              refine g_qb_ret ?_
              refine g_qt_ret ?_
              refine g_qn_ret ?_
              refine g_qb_ret ?_
              refine g_qt_ret ?_
              exact g_post (Ho := []) (rs := [.cell 2 30, .tmp 3, .tmp 4]) rfl (Res.cellN (by rfl) rfl (Has.own (by repeat' (first | exact Take.here | apply Take.there))) (by rfl) (.tmp rfl (.tmp rfl .nil))) (ParR.err (by rw [hI]; rfl)) (by repeat' (first | exact Cover.nil | exact Take.here | apply Cover.cons | apply Take.there))
            | some c =>
              rw [hV] at hI
              dsimp only at hI
              have hcw := (words_some hV).2
              have hcl : c.length ≤ 1000000 := by
                have h1 := congrArg List.length (words_some hV).1
                have h2 := wordsD_len W[i]
                simp at h1; omega
              have hck := check_one hx0 (show x ≤ 262144 by omega) (c := c) fun z hz => (hcw z hz).1
              refine g_call (Hin := []) (Hr := ?hr5) (R := ?rr5) rfl rfl rfl ?hin5 ?hc5 ?hk5
              case hin5 => repeat' (first | exact Cover.nil | exact Take.here | apply Cover.cons | apply Take.there)
              case hc5 => intro ρ' hρ hR; exact (dclause_ok W[i] (by omega)).mono (R' := fun v H => ∃ a cap, v = .tuple #[.slice a c.length cap, .bool true] ∧ H = [OwnSl 3 1 a c.length cap (c.map encI)]) (fun v H h => by unfold ClD at h; rw [hV] at h; exact h)
              rintro _ _ ⟨ra, rc, rfl, rfl⟩
              refine g_pure (p_move rfl) rfl ?_
              refine g_pure (p_extract rfl rfl) rfl ?_
              refine g_pure (p_extract rfl rfl) rfl ?_
              refine g_pure (p_assign rfl) rfl ?_
              refine g_pure (p_assign rfl) rfl ?_
              refine g_nil ?_
              refine g_qt ?_
              refine g_seq ?_
              refine g_seq ?_
              refine g_region ?_
              refine g_pure (p_move rfl) rfl ?_
              refine g_pure (p_not rfl) rfl ?_
              refine g_nil ?_
              refine g_qt ?_
              refine g_iff rfl ?_
              refine g_skip ?_
              refine g_qt ?_
              refine g_seq ?_
              refine g_seq ?_
              refine g_region ?_
              refine g_pure (p_move rfl) rfl ?_
              refine g_pure (p_move rfl) rfl ?_
              refine g_eff (e_bs (xs := [.tmp 63]) rfl rfl rfl (by rfl) (by rfl) rfl (by rfl)) rfl (fun _ _ => ?_)
              rintro ⟨b64, rfl, rfl⟩
              refine g_pure (p_build (by rfl) rfl (by rfl)) rfl ?_
              cases hfar : farV x c with
              | true =>
                rw [if_pos hfar] at hI
                rw [if_pos hfar] at hck
                refine g_call (Hin := []) (Hr := ?hr6) (R := ?rr6) rfl rfl rfl ?hin6 ?hc6 ?hk6
                case hin6 => repeat' (first | exact Cover.nil | exact Take.here | apply Cover.cons | apply Take.there)
                case hc6 => intro ρ' hρ hR; exact (rcheck_ok x (by unfold I64; omega) (some ⟨b64, 0, none⟩) 1 [c] (one_ro hR.1.blk hcl (fun z hz => by have := hcw z hz; unfold I64; omega) (RSl.of_own (Take.ro (A := OwnSl 3 1 ra c.length rc (c.map encI)) (by repeat' (first | exact Take.here | apply Take.there)) hR)))).mono (R' := fun v H => v = .int .i64 14 ∧ H = []) (fun v H h => by rw [hck] at h; exact h)
                rintro _ _ ⟨rfl, rfl⟩
                refine g_pure (p_neqT rfl rfl (by decide)) rfl ?_
                refine g_nil ?_
                refine g_qt ?_
                refine g_ift rfl ?_
                refine g_seq ?_
                refine g_region ?_
                refine g_pure (p_build (by rfl) rfl (by rfl)) rfl ?_
                refine g_pure (p_move rfl) rfl ?_
                first | refine g_pure (p_addi rfl rfl (by omega)) rfl ?_ | refine g_pure (p_add rfl rfl) rfl ?_
                first | refine g_eff0 (e_storeO rfl rfl (by rfl) (by rfl) (by rfl) (by repeat' (first | exact Take.here | apply Take.there)) (by rfl)) (fun _ _ => ?_) | refine g_eff0 (e_storeN rfl rfl (by rfl) (by rfl) (by rfl) (by repeat' (first | exact Take.here | apply Take.there)) (by simp)) (fun _ _ => ?_)
                rintro rfl
                refine g_pure (p_assign rfl) rfl ?_
                refine g_pure (p_assign rfl) rfl ?_
                refine g_nil ?_
                refine g_qt ?_
                refine g_ret ?_
                refine g_qt_ret ?_
                refine g_qb_ret ?_
                refine g_qt_ret ?_
                refine g_qn_ret ?_
                refine g_qb_ret ?_
                refine g_qt_ret ?_
                exact g_post (Ho := []) (rs := [.cell 2 30, .tmp 3, .tmp 4]) rfl (Res.cellN (by rfl) rfl (Has.own (by repeat' (first | exact Take.here | apply Take.there))) (by rfl) (.tmp rfl (.tmp rfl .nil))) (ParR.err (by rw [hI]; rfl)) (by repeat' (first | exact Cover.nil | exact Take.here | apply Cover.cons | apply Take.there))
              | false =>
                rw [if_neg (by rw [hfar]; decide), map_app] at hI
                rw [if_neg (by rw [hfar]; decide)] at hck
                refine g_call (Hin := []) (Hr := ?hr7) (R := ?rr7) rfl rfl rfl ?hin7 ?hc7 ?hk7
                case hin7 => repeat' (first | exact Cover.nil | exact Take.here | apply Cover.cons | apply Take.there)
                case hc7 => intro ρ' hρ hR; exact (rcheck_ok x (by unfold I64; omega) (some ⟨b64, 0, none⟩) 1 [c] (one_ro hR.1.blk hcl (fun z hz => by have := hcw z hz; unfold I64; omega) (RSl.of_own (Take.ro (A := OwnSl 3 1 ra c.length rc (c.map encI)) (by repeat' (first | exact Take.here | apply Take.there)) hR)))).mono (R' := fun v H => v = .int .i64 0 ∧ H = []) (fun v H h => by rw [hck] at h; exact h)
                rintro _ _ ⟨rfl, rfl⟩
                refine g_pure (p_neqF rfl rfl rfl) rfl ?_
                refine g_nil ?_
                refine g_qt ?_
                rw [show c.length = (encCl c).length by simp [encCl]]
                refine g_open2 (H' := _) (eo := 79) (ei := 3) (a := ca) (cap := cc) (rows := F.map encCl) (by repeat' (first | exact Take.here | apply Take.there)) ?_
                rintro hs2 hhs
                rw [List.length_map] at hhs ⊢
                refine g_iff rfl ?_
                refine g_skip ?_
                refine g_qt ?_
                refine g_region ?_
                refine g_pure (p_fieldAddr rfl) rfl ?_
                refine g_pure (p_load (by rfl) rfl (by first | (apply Has.own; (repeat' (first | exact Take.here | apply Take.there)); done) | exact Has.ro (by assumption)) (by first | rfl | assumption)) rfl ?_
                refine g_pure (p_move rfl) rfl ?_
                refine g_eff (e_bs (xs := [.tmp 73]) rfl rfl rfl (by rfl) (by rfl) rfl (by rfl)) rfl (fun _ _ => ?_)
                rintro ⟨b74, rfl, rfl⟩
                refine g_eff (e_appendO (by rfl) (by rfl) rfl rfl (by first | (apply Has.own; (repeat' (first | exact Take.here | apply Take.there)); done) | exact Has.ro (by assumption)) (by rfl) (by rfl) (by repeat' (first | exact Take.here | apply Take.there)) (by omega) (by first | omega | (dsimp only; omega) | (simp <;> omega)) (by omega)) rfl (fun _ _ => ?_)
                rintro ⟨a75, c75, rfl, rfl⟩
                refine g_pure (p_fieldAddr rfl) rfl ?_
                first | refine g_eff0 (e_storeO rfl rfl (by rfl) (by rfl) (by rfl) (by repeat' (first | exact Take.here | apply Take.there)) (by rfl)) (fun _ _ => ?_) | refine g_eff0 (e_store1 (by rfl) rfl rfl rfl (by repeat' (first | exact Take.here | apply Take.there)) (by first | decide | (simp <;> omega) | omega)) (fun _ _ => ?_)
                rintro rfl
                refine g_nil ?_
                refine g_qb ?_
                refine g_qt ?_
                refine g_region ?_
                refine g_pure (p_move rfl) rfl ?_
                first | refine g_pure (p_addi rfl rfl (by omega)) rfl ?_ | refine g_pure (p_add rfl rfl) rfl ?_
                refine g_pure (p_assign rfl) rfl ?_
                refine g_nil ?_
                refine g_qn ?_
                refine g_push1 (rows := F.map encCl) (hs := hs2) (ei := 3) (by rw [List.length_map]; exact hhs) (g := (ra, rc)) (r := encCl c) (by rw [List.length_map]) rfl (by repeat' (first | exact Take.here | apply Take.there)) (by repeat' (first | exact Take.here | apply Take.there)) (by repeat' (first | exact Take.here | apply Take.there)) ?_
                rw [show F.map encCl ++ [encCl c] = (F ++ [c]).map encCl by simp, show F.length + 1 = (F ++ [c]).length by simp]
                exact g_next (i + 1, F ++ [c], a75, c75) (by (repeat (first | exact trivial | refine ⟨by rfl, ?_⟩)); done) (by repeat' (first | exact Cover.nil | exact Take.here | apply Cover.cons | apply Take.there)) ⟨by dsimp only; omega, by dsimp only; omega, by dsimp only; rw [List.length_append]; simp; omega, by dsimp only; rw [hI, show y.toNat + 1 - (i + 1) = k by omega]; rfl⟩ (by dsimp only; omega)
        · have hie : i = y.toNat + 1 := by omega
          rw [show y.toNat + 1 - i = 0 by omega, bodyL] at hI
          have hret : y + 2 = (i : Int) + 1 := by omega
          refine g_exit ?_
          refine g_qt_exit ?_
          refine g_qn_exit ?_
          refine g_qb_exit ?_
          refine g_qt ?_
          refine g_seq ?_
          refine g_seq ?_
          refine g_region ?_
          refine g_pure (p_move rfl) rfl ?_
          refine g_pure (p_move rfl) rfl ?_
          first | refine g_pure (p_addi rfl rfl (by omega)) rfl ?_ | refine g_pure (p_add rfl rfl) rfl ?_
          refine g_pure (p_gtr rfl rfl) rfl ?_
          refine g_pure (p_move rfl) rfl ?_
          refine g_splitd rfl rfl (fun z => ?_) (fun z => ?_)
          · rw [if_neg (fun e => by have := congrArg List.length e; simp at this; omega)] at hI
            refine g_no rfl rfl rfl rfl ?_
            refine g_no rfl rfl rfl rfl ?_
            refine g_no rfl rfl rfl rfl ?_
            refine g_no rfl rfl rfl rfl ?_
            refine g_no rfl rfl rfl rfl ?_
            first | refine g_pure (p_pickt rfl rfl) rfl ?_ | refine g_pure (p_pickf rfl rfl) rfl ?_
            refine g_nil ?_
            refine g_qt ?_
            refine g_ift rfl ?_
            refine g_seq ?_
            refine g_region ?_
            refine g_pure (p_build (by rfl) rfl (by rfl)) rfl ?_
            refine g_pure (p_move rfl) rfl ?_
            first | refine g_pure (p_addi rfl rfl (by omega)) rfl ?_ | refine g_pure (p_add rfl rfl) rfl ?_
            first | refine g_eff0 (e_storeO rfl rfl (by rfl) (by rfl) (by rfl) (by repeat' (first | exact Take.here | apply Take.there)) (by rfl)) (fun _ _ => ?_) | refine g_eff0 (e_storeN rfl rfl (by rfl) (by rfl) (by rfl) (by repeat' (first | exact Take.here | apply Take.there)) (by simp)) (fun _ _ => ?_)
            rintro rfl
            refine g_pure (p_assign rfl) rfl ?_
            refine g_pure (p_assign rfl) rfl ?_
            refine g_nil ?_
            refine g_qt ?_
            refine g_ret ?_
            refine g_qt_ret ?_
            rw [hret]
            exact g_post (Ho := []) (rs := [.cell 2 30, .tmp 3, .tmp 4]) rfl (Res.cellN (by rfl) rfl (Has.own (by repeat' (first | exact Take.here | apply Take.there))) (by rfl) (.tmp rfl (.tmp rfl .nil))) (ParR.err (by rw [hI]; rfl)) (by repeat' (first | exact Cover.nil | exact Take.here | apply Cover.cons | apply Take.there))
          · have hlast : (i : Int) = (W.length : Int) - 1 := by omega
            rw [List.drop_eq_getElem_cons hil, List.drop_of_length_le (by omega)] at hI
            have hcl2 := hcur i hil
            rw [hlast] at hcl2
            by_cases hle : W[i] = []
            · rw [if_pos (by rw [hle])] at hI
              have hI2 : parseV t = .ok (x, F) := by rw [hI]; simp [Except.map]
              refine g_yes rfl rfl ?_
              refine g_pure (p_move rfl) rfl ?_
              refine g_yes rfl rfl ?_
              refine g_pure (p_move rfl) rfl ?_
              refine g_yes rfl rfl ?_
              refine g_pure (p_indexAddr rfl rfl (by omega) (fun _ => rfl)) rfl ?_
              refine g_yes rfl rfl ?_
              refine g_pure (p_load (by rfl) rfl (Has.own (by repeat' (first | exact Take.here | apply Take.there))) hcl2) rfl ?_
              refine g_yes rfl rfl ?_
              refine g_pure (p_neqsF (by rfl) rfl rfl (strOf_inj.2 hle)) rfl ?_
              first | refine g_pure (p_pickt rfl rfl) rfl ?_ | refine g_pure (p_pickf rfl rfl) rfl ?_
              refine g_nil ?_
              refine g_qt ?_
              refine g_iff rfl ?_
              refine g_skip ?_
              refine g_qt ?_
              refine g_seq ?_
              refine g_region ?_
              first | refine g_pure (p_loadO (by rfl) rfl (by first | (apply Has.own; (repeat' (first | exact Take.here | apply Take.there)); done) | exact Has.ro (by assumption)) (by rfl)) rfl ?_ | refine g_pure (p_loadN (by rfl) rfl (by first | (apply Has.own; (repeat' (first | exact Take.here | apply Take.there)); done) | exact Has.ro (by assumption)) (by first | rfl | assumption)) rfl ?_
              first | refine g_eff0 (e_storeO rfl rfl (by rfl) (by rfl) (by rfl) (by repeat' (first | exact Take.here | apply Take.there)) (by rfl)) (fun _ _ => ?_) | refine g_eff0 (e_storeN rfl rfl (by rfl) (by rfl) (by rfl) (by repeat' (first | exact Take.here | apply Take.there)) (by simp)) (fun _ _ => ?_)
              rintro rfl
              refine g_pure (p_assign rfl) rfl ?_
              refine g_pure (p_assign rfl) rfl ?_
              refine g_nil ?_
              refine g_qt ?_
              refine g_ret ?_
              exact g_post (Ho := [Own2 79 3 ca cc (F.map encCl)]) (rs := [.cell 2 30, .tmp 3, .tmp 4]) rfl (Res.cellN (by rfl) rfl (Has.own (by repeat' (first | exact Take.here | apply Take.there))) (by rfl) (.tmp rfl (.tmp rfl .nil))) (by unfold ParR; rw [hI2]; exact ⟨ca, cc, rfl, rfl⟩) (by repeat' (first | exact Cover.nil | exact Take.here | apply Cover.cons | apply Take.there))
            · rw [if_neg (fun e => by injection e with e; exact hle e)] at hI
              refine g_yes rfl rfl ?_
              refine g_pure (p_move rfl) rfl ?_
              refine g_yes rfl rfl ?_
              refine g_pure (p_move rfl) rfl ?_
              refine g_yes rfl rfl ?_
              refine g_pure (p_indexAddr rfl rfl (by omega) (fun _ => rfl)) rfl ?_
              refine g_yes rfl rfl ?_
              refine g_pure (p_load (by rfl) rfl (Has.own (by repeat' (first | exact Take.here | apply Take.there))) hcl2) rfl ?_
              refine g_yes rfl rfl ?_
              refine g_pure (p_neqsT (by rfl) rfl rfl (fun e => hle (strOf_inj.1 e))) rfl ?_
              first | refine g_pure (p_pickt rfl rfl) rfl ?_ | refine g_pure (p_pickf rfl rfl) rfl ?_
              refine g_nil ?_
              refine g_qt ?_
              refine g_ift rfl ?_
              refine g_seq ?_
              refine g_region ?_
              refine g_pure (p_build (by rfl) rfl (by rfl)) rfl ?_
              refine g_pure (p_move rfl) rfl ?_
              first | refine g_pure (p_addi rfl rfl (by omega)) rfl ?_ | refine g_pure (p_add rfl rfl) rfl ?_
              first | refine g_eff0 (e_storeO rfl rfl (by rfl) (by rfl) (by rfl) (by repeat' (first | exact Take.here | apply Take.there)) (by rfl)) (fun _ _ => ?_) | refine g_eff0 (e_storeN rfl rfl (by rfl) (by rfl) (by rfl) (by repeat' (first | exact Take.here | apply Take.there)) (by simp)) (fun _ _ => ?_)
              rintro rfl
              refine g_pure (p_assign rfl) rfl ?_
              refine g_pure (p_assign rfl) rfl ?_
              refine g_nil ?_
              refine g_qt ?_
              refine g_ret ?_
              refine g_qt_ret ?_
              rw [hret]
              exact g_post (Ho := []) (rs := [.cell 2 30, .tmp 3, .tmp 4]) rfl (Res.cellN (by rfl) rfl (Has.own (by repeat' (first | exact Take.here | apply Take.there))) (by rfl) (.tmp rfl (.tmp rfl .nil))) (ParR.err (by rw [hI]; rfl)) (by repeat' (first | exact Cover.nil | exact Take.here | apply Cover.cons | apply Take.there))

theorem cparses_ok {ρ : Nat → Obj → Prop} (hk : LibC ρ) (s : ByteArray) (hsz : s.size ≤ 9223372036854775807) :
    Con Tryz.prog ρ 5 #[.string s] [] (fun v _ => v = .bool true) := by
  obtain ⟨t, rfl⟩ : ∃ t, s = strOf t := ⟨s.data.toList, by apply ByteArray.ext; apply Array.ext'; rfl⟩
  have hss : (strOf t).size = t.length := rfl
  refine con_intro Tryz.func5 Tryz.call5 rfl Tryz.ntmps5 rfl (L := [(0, _)]) rfl fun w hh => ?_
  refine g_seq ?_
  refine g_region ?_
  refine g_pure (p_assign rfl) rfl ?_
  refine g_nil ?_
  refine g_qt ?_
  refine g_seq ?_
  refine g_seq ?_
  refine g_region ?_
  refine g_pure (p_move rfl) rfl ?_
  refine g_pure (p_lens (by rfl) rfl) rfl ?_
  refine g_pure (p_gtr rfl rfl) rfl ?_
  refine g_nil ?_
  refine g_qt ?_
  refine g_ifd rfl (fun h => ?_) (fun h => ?_)
  · refine g_seq ?_
    refine g_region ?_
    refine g_call (Hin := []) (Hr := ?hr8) (R := ?rr8) rfl rfl rfl ?hin8 ?hc8 ?hk8
    case hin8 => repeat' (first | exact Cover.nil | exact Take.here | apply Cover.cons | apply Take.there)
    case hc8 => intro ρ' hρ hR; exact awake36_ok (hk.mono hρ)
    rintro _ _ ⟨rfl, rfl⟩
    refine g_pure (p_assign rfl) rfl ?_
    refine g_nil ?_
    refine g_qt ?_
    refine g_ret ?_
    refine g_qt_ret ?_
    exact g_post (Ho := []) (rs := [.tmp 2]) rfl (.tmp rfl .nil) rfl .nil
  · rw [hss] at h
    refine g_skip ?_
    refine g_qt ?_
    refine g_seq ?_
    refine g_region ?_
    refine g_pure (p_move rfl) rfl ?_
    cases hP : parseV t with
    | error p =>
      obtain ⟨k, e⟩ := p
      have he := parse_err hP
      refine g_call (Hin := []) (Hr := ?hr9) (R := ?rr9) rfl rfl rfl ?hin9 ?hc9 ?hk9
      case hin9 => repeat' (first | exact Cover.nil | exact Take.here | apply Cover.cons | apply Take.there)
      case hc9 => intro ρ' hρ hR; exact (parse_ok (hk.mono hρ) t (by omega)).mono (R' := fun v H => v = .tuple #[.agg #[.int .i64 0, .slice none 0 0], .int .i64 k, .int .i64 e] ∧ H = []) (fun v H h => by unfold ParR at h; rw [hP] at h; exact h)
      rintro _ _ ⟨rfl, rfl⟩
      refine g_pure (p_move rfl) rfl ?_
      refine g_pure (p_extract rfl rfl) rfl ?_
      refine g_pure (p_extract rfl rfl) rfl ?_
      refine g_pure (p_extract rfl rfl) rfl ?_
      refine g_eff (e_alloc (by rfl)) rfl (fun _ _ => ?_)
      rintro ⟨b3, rfl, rfl⟩
      first | refine g_eff0 (e_storeO rfl rfl (by rfl) (by rfl) (by rfl) (by repeat' (first | exact Take.here | apply Take.there)) (by rfl)) (fun _ _ => ?_) | refine g_eff0 (e_storeN rfl rfl (by rfl) (by rfl) (by rfl) (by repeat' (first | exact Take.here | apply Take.there)) (by simp)) (fun _ _ => ?_)
      rintro rfl
      refine g_pure (p_assign rfl) rfl ?_
      refine g_pure (p_assign rfl) rfl ?_
      refine g_nil ?_
      refine g_qt ?_
      refine g_seq ?_
      refine g_region ?_
      refine g_pure (p_move rfl) rfl ?_
      refine g_call (Hin := []) (Hr := ?hr10) (R := ?rr10) rfl rfl rfl ?hin10 ?hc10 ?hk10
      case hin10 => repeat' (first | exact Cover.nil | exact Take.here | apply Cover.cons | apply Take.there)
      case hc10 => intro ρ' hρ hR; exact (dparse36_ok t (by omega)).mono (R' := fun v H => v = .tuple #[.agg #[.int .i64 0, .slice none 0 0], .int .i64 k, .int .i64 e] ∧ H = []) (fun v H h => by unfold ParR at h; rw [hP] at h; exact h)
      rintro _ _ ⟨rfl, rfl⟩
      refine g_pure (p_move rfl) rfl ?_
      refine g_pure (p_extract rfl rfl) rfl ?_
      refine g_pure (p_extract rfl rfl) rfl ?_
      refine g_pure (p_extract rfl rfl) rfl ?_
      refine g_eff (e_alloc (by rfl)) rfl (fun _ _ => ?_)
      rintro ⟨b6, rfl, rfl⟩
      first | refine g_eff0 (e_storeO rfl rfl (by rfl) (by rfl) (by rfl) (by repeat' (first | exact Take.here | apply Take.there)) (by rfl)) (fun _ _ => ?_) | refine g_eff0 (e_storeN rfl rfl (by rfl) (by rfl) (by rfl) (by repeat' (first | exact Take.here | apply Take.there)) (by simp)) (fun _ _ => ?_)
      rintro rfl
      refine g_pure (p_assign rfl) rfl ?_
      refine g_pure (p_assign rfl) rfl ?_
      refine g_nil ?_
      refine g_qt ?_
      refine g_seq ?_
      refine g_seq ?_
      refine g_region ?_
      refine g_pure (p_move rfl) rfl ?_
      refine g_pure (p_move rfl) rfl ?_
      refine g_pure (p_neqF rfl rfl rfl) rfl ?_
      refine g_pure (p_move rfl) rfl ?_
      refine g_yes rfl rfl ?_
      refine g_pure (p_move rfl) rfl ?_
      refine g_yes rfl rfl ?_
      refine g_pure (p_move rfl) rfl ?_
      refine g_yes rfl rfl ?_
      refine g_pure (p_neqF rfl rfl rfl) rfl ?_
      first | refine g_pure (p_pickt rfl rfl) rfl ?_ | refine g_pure (p_pickf rfl rfl) rfl ?_
      refine g_pure (p_move rfl) rfl ?_
      refine g_yes rfl rfl ?_
      first | refine g_pure (p_loadO (by rfl) rfl (by first | (apply Has.own; (repeat' (first | exact Take.here | apply Take.there)); done) | exact Has.ro (by assumption)) (by rfl)) rfl ?_ | refine g_pure (p_loadN (by rfl) rfl (by first | (apply Has.own; (repeat' (first | exact Take.here | apply Take.there)); done) | exact Has.ro (by assumption)) (by first | rfl | assumption)) rfl ?_
      refine g_yes rfl rfl ?_
      first | refine g_pure (p_loadO (by rfl) rfl (by first | (apply Has.own; (repeat' (first | exact Take.here | apply Take.there)); done) | exact Has.ro (by assumption)) (by rfl)) rfl ?_ | refine g_pure (p_loadN (by rfl) rfl (by first | (apply Has.own; (repeat' (first | exact Take.here | apply Take.there)); done) | exact Has.ro (by assumption)) (by first | rfl | assumption)) rfl ?_
      refine g_yes rfl rfl ?_
      refine g_call (Hin := []) (Hr := ?hr11) (R := ?rr11) rfl rfl rfl ?hin11 ?hc11 ?hk11
      case hin11 => repeat' (first | exact Cover.nil | exact Take.here | apply Cover.cons | apply Take.there)
      case hc11 => intro ρ' hρ hR; exact dsame_ok 0 none none 0 0 [] nil_ro nil_ro
      rintro _ _ ⟨rfl, rfl⟩
      refine g_yes rfl rfl ?_
      refine g_pure (p_not rfl) rfl ?_
      first | refine g_pure (p_pickt rfl rfl) rfl ?_ | refine g_pure (p_pickf rfl rfl) rfl ?_
      refine g_nil ?_
      refine g_qt ?_
      refine g_iff rfl ?_
      refine g_skip ?_
      refine g_qt ?_
      refine g_seq ?_
      refine g_seq ?_
      refine g_region ?_
      refine g_pure (p_move rfl) rfl ?_
      refine g_pure (p_neqT rfl rfl he) rfl ?_
      refine g_nil ?_
      refine g_qt ?_
      refine g_ift rfl ?_
      refine g_seq ?_
      refine g_region ?_
      refine g_call (Hin := []) (Hr := ?hr12) (R := ?rr12) rfl rfl rfl ?hin12 ?hc12 ?hk12
      case hin12 => repeat' (first | exact Cover.nil | exact Take.here | apply Cover.cons | apply Take.there)
      case hc12 => intro ρ' hρ hR; exact awake36_ok (hk.mono hρ)
      rintro _ _ ⟨rfl, rfl⟩
      refine g_pure (p_assign rfl) rfl ?_
      refine g_nil ?_
      refine g_qt ?_
      refine g_ret ?_
      refine g_qt_ret ?_
      exact g_post (Ho := []) (rs := [.tmp 2]) rfl (.tmp rfl .nil) rfl .nil
    | ok p =>
      obtain ⟨n, F⟩ := p
      obtain ⟨hT, hn0, hn1, hFl, hlits⟩ := parse_some hP
      have hc := check_zero hn0 hn1 hlits
      have hlens : ∀ c ∈ F, c.length ≤ 9223372036854775807 := fun c hc => by have := text_ge (n := n) hc; rw [hT] at this; omega
      have hI : ∀ c ∈ F, ∀ x ∈ c, I64 x := fun c hc x hx => by have := hlits c hc x hx; unfold I64; omega
      refine g_call (Hin := []) (Hr := ?hr13) (R := ?rr13) rfl rfl rfl ?hin13 ?hc13 ?hk13
      case hin13 => repeat' (first | exact Cover.nil | exact Take.here | apply Cover.cons | apply Take.there)
      case hc13 => intro ρ' hρ hR; exact (parse_ok (hk.mono hρ) t (by omega)).mono (R' := fun v H => ∃ ca cc, v = .tuple #[.agg #[.int .i64 n, .slice ca F.length cc], .int .i64 0, .int .i64 0] ∧ H = [Own2 79 3 ca cc (F.map encCl)]) (fun v H h => by unfold ParR at h; rw [hP] at h; exact h)
      rintro _ _ ⟨ca, cc, rfl, rfl⟩
      refine g_pure (p_move rfl) rfl ?_
      refine g_pure (p_extract rfl rfl) rfl ?_
      refine g_pure (p_extract rfl rfl) rfl ?_
      refine g_pure (p_extract rfl rfl) rfl ?_
      refine g_eff (e_alloc (by rfl)) rfl (fun _ _ => ?_)
      rintro ⟨b3, rfl, rfl⟩
      first | refine g_eff0 (e_storeO rfl rfl (by rfl) (by rfl) (by rfl) (by repeat' (first | exact Take.here | apply Take.there)) (by rfl)) (fun _ _ => ?_) | refine g_eff0 (e_storeN rfl rfl (by rfl) (by rfl) (by rfl) (by repeat' (first | exact Take.here | apply Take.there)) (by simp)) (fun _ _ => ?_)
      rintro rfl
      refine g_pure (p_assign rfl) rfl ?_
      refine g_pure (p_assign rfl) rfl ?_
      refine g_nil ?_
      refine g_qt ?_
      refine g_seq ?_
      refine g_region ?_
      refine g_pure (p_move rfl) rfl ?_
      refine g_call (Hin := []) (Hr := ?hr14) (R := ?rr14) rfl rfl rfl ?hin14 ?hc14 ?hk14
      case hin14 => repeat' (first | exact Cover.nil | exact Take.here | apply Cover.cons | apply Take.there)
      case hc14 => intro ρ' hρ hR; exact (dparse36_ok t (by omega)).mono (R' := fun v H => ∃ ca cc, v = .tuple #[.agg #[.int .i64 n, .slice ca F.length cc], .int .i64 0, .int .i64 0] ∧ H = [Own2 79 3 ca cc (F.map encCl)]) (fun v H h => by unfold ParR at h; rw [hP] at h; exact h)
      rintro _ _ ⟨ca2, cc2, rfl, rfl⟩
      refine g_pure (p_move rfl) rfl ?_
      refine g_pure (p_extract rfl rfl) rfl ?_
      refine g_pure (p_extract rfl rfl) rfl ?_
      refine g_pure (p_extract rfl rfl) rfl ?_
      refine g_eff (e_alloc (by rfl)) rfl (fun _ _ => ?_)
      rintro ⟨b6, rfl, rfl⟩
      first | refine g_eff0 (e_storeO rfl rfl (by rfl) (by rfl) (by rfl) (by repeat' (first | exact Take.here | apply Take.there)) (by rfl)) (fun _ _ => ?_) | refine g_eff0 (e_storeN rfl rfl (by rfl) (by rfl) (by rfl) (by repeat' (first | exact Take.here | apply Take.there)) (by simp)) (fun _ _ => ?_)
      rintro rfl
      refine g_pure (p_assign rfl) rfl ?_
      refine g_pure (p_assign rfl) rfl ?_
      refine g_nil ?_
      refine g_qt ?_
      refine g_seq ?_
      refine g_seq ?_
      refine g_region ?_
      refine g_pure (p_move rfl) rfl ?_
      refine g_pure (p_move rfl) rfl ?_
      refine g_pure (p_neqF rfl rfl rfl) rfl ?_
      refine g_pure (p_move rfl) rfl ?_
      refine g_yes rfl rfl ?_
      refine g_pure (p_move rfl) rfl ?_
      refine g_yes rfl rfl ?_
      refine g_pure (p_move rfl) rfl ?_
      refine g_yes rfl rfl ?_
      refine g_pure (p_neqF rfl rfl rfl) rfl ?_
      first | refine g_pure (p_pickt rfl rfl) rfl ?_ | refine g_pure (p_pickf rfl rfl) rfl ?_
      refine g_pure (p_move rfl) rfl ?_
      refine g_yes rfl rfl ?_
      first | refine g_pure (p_loadO (by rfl) rfl (by first | (apply Has.own; (repeat' (first | exact Take.here | apply Take.there)); done) | exact Has.ro (by assumption)) (by rfl)) rfl ?_ | refine g_pure (p_loadN (by rfl) rfl (by first | (apply Has.own; (repeat' (first | exact Take.here | apply Take.there)); done) | exact Has.ro (by assumption)) (by first | rfl | assumption)) rfl ?_
      refine g_yes rfl rfl ?_
      first | refine g_pure (p_loadO (by rfl) rfl (by first | (apply Has.own; (repeat' (first | exact Take.here | apply Take.there)); done) | exact Has.ro (by assumption)) (by rfl)) rfl ?_ | refine g_pure (p_loadN (by rfl) rfl (by first | (apply Has.own; (repeat' (first | exact Take.here | apply Take.there)); done) | exact Has.ro (by assumption)) (by first | rfl | assumption)) rfl ?_
      refine g_yes rfl rfl ?_
      refine g_call (Hin := []) (Hr := ?hr15) (R := ?rr15) rfl rfl rfl ?hin15 ?hc15 ?hk15
      case hin15 => repeat' (first | exact Cover.nil | exact Take.here | apply Cover.cons | apply Take.there)
      case hc15 => intro ρ' hρ hR; exact dsame_ok n ca ca2 cc cc2 F ⟨Own2.ro (Take.ro (A := Own2 79 3 ca cc (F.map encCl)) (by repeat' (first | exact Take.here | apply Take.there)) hR), by omega, hlens, hI⟩ ⟨Own2.ro (Take.ro (A := Own2 79 3 ca2 cc2 (F.map encCl)) (by repeat' (first | exact Take.here | apply Take.there)) hR), by omega, hlens, hI⟩
      rintro _ _ ⟨rfl, rfl⟩
      refine g_yes rfl rfl ?_
      refine g_pure (p_not rfl) rfl ?_
      first | refine g_pure (p_pickt rfl rfl) rfl ?_ | refine g_pure (p_pickf rfl rfl) rfl ?_
      refine g_nil ?_
      refine g_qt ?_
      refine g_iff rfl ?_
      refine g_skip ?_
      refine g_qt ?_
      refine g_seq ?_
      refine g_seq ?_
      refine g_region ?_
      refine g_pure (p_move rfl) rfl ?_
      refine g_pure (p_neqF rfl rfl rfl) rfl ?_
      refine g_nil ?_
      refine g_qt ?_
      refine g_iff rfl ?_
      refine g_skip ?_
      refine g_qt ?_
      refine g_seq ?_
      refine g_region ?_
      first | refine g_pure (p_loadO (by rfl) rfl (by first | (apply Has.own; (repeat' (first | exact Take.here | apply Take.there)); done) | exact Has.ro (by assumption)) (by rfl)) rfl ?_ | refine g_pure (p_loadN (by rfl) rfl (by first | (apply Has.own; (repeat' (first | exact Take.here | apply Take.there)); done) | exact Has.ro (by assumption)) (by first | rfl | assumption)) rfl ?_
      refine g_call (Hin := []) (Hr := ?hr16) (R := ?rr16) rfl rfl rfl ?hin16 ?hc16 ?hk16
      case hin16 => repeat' (first | exact Cover.nil | exact Take.here | apply Cover.cons | apply Take.there)
      case hc16 => intro ρ' hρ hR; exact (text_ok (hk.mono hρ) n (by unfold I64; omega) ca cc F ⟨Own2.ro (Take.ro (A := Own2 79 3 ca cc (F.map encCl)) (by repeat' (first | exact Take.here | apply Take.there)) hR), by omega, hlens, hI⟩ (by rw [hT]; omega)).mono (R' := fun v H => v = .tuple #[.string (strOf t), .int .i64 0] ∧ H = []) (fun v H h => by rw [if_pos hc, hT] at h; exact h)
      rintro _ _ ⟨rfl, rfl⟩
      refine g_pure (p_move rfl) rfl ?_
      refine g_pure (p_extract rfl rfl) rfl ?_
      refine g_pure (p_extract rfl rfl) rfl ?_
      refine g_pure (p_assign rfl) rfl ?_
      refine g_pure (p_assign rfl) rfl ?_
      refine g_nil ?_
      refine g_qt ?_
      refine g_seq ?_
      refine g_region ?_
      refine g_pure (p_move rfl) rfl ?_
      refine g_pure (p_eqlT rfl rfl rfl) rfl ?_
      refine g_pure (p_move rfl) rfl ?_
      refine g_yes rfl rfl ?_
      refine g_pure (p_move rfl) rfl ?_
      refine g_yes rfl rfl ?_
      refine g_pure (p_move rfl) rfl ?_
      refine g_yes rfl rfl ?_
      refine g_pure (p_eqlsT (by rfl) rfl rfl rfl) rfl ?_
      first | refine g_pure (p_pickt rfl rfl) rfl ?_ | refine g_pure (p_pickf rfl rfl) rfl ?_
      refine g_pure (p_move rfl) rfl ?_
      refine g_yes rfl rfl ?_
      refine g_call (Hin := []) (Hr := ?hr17) (R := ?rr17) rfl rfl rfl ?hin17 ?hc17 ?hk17
      case hin17 => repeat' (first | exact Cover.nil | exact Take.here | apply Cover.cons | apply Take.there)
      case hc17 => intro ρ' hρ hR; exact awake36_ok (hk.mono hρ)
      rintro _ _ ⟨rfl, rfl⟩
      first | refine g_pure (p_pickt rfl rfl) rfl ?_ | refine g_pure (p_pickf rfl rfl) rfl ?_
      refine g_pure (p_assign rfl) rfl ?_
      refine g_nil ?_
      refine g_qt ?_
      refine g_ret ?_
      exact g_post (Ho := []) (rs := [.tmp 2]) rfl (.tmp rfl .nil) rfl .nil
end Go.Proofs.YtopgbgnmjogeeaaGreatDoor
/- Chapter 36: reading the calls that build a graph. Conditions: none. -/
namespace Go.Proofs.YtopgbgnmjogeeaaGreatDoor
set_option maxRecDepth 8000
set_option linter.unusedVariables false
set_option linter.unusedSimpArgs false
set_option linter.unusedSectionVars false
open Go Go.Z Go.Z.Aig Go.Z.Tse

variable {H : Type} {enc : TypeId × Value → H} {W : World} {cs : List Value}
theorem fourA {c : List Value} (h : c.length = 4) : ∃ a b d e, c = [a, b, d, e] := by
  match c, h with
  | [a, b, d, e], _ => exact ⟨a, b, d, e, rfl⟩
theorem rd_act {c : List Value} (h : Rdx enc Tryz.prog W 64 c) : ∃ x : Ac, c = encA x ∧ x.ok := by
  obtain ⟨h1, h2⟩ := rd_struct Tryz.underlying64 h
  obtain ⟨v0, v1, v2, v3, rfl⟩ := fourA (h1.trans (by kernel_rfl))
  have c1 : Tryz.prog.cellsOf 3 = 1 := by kernel_rfl
  have f0 : Rdx enc Tryz.prog W 3 (List.take (Tryz.prog.cellsOf 3) ([v0, v1, v2, v3].drop 0)) := h2 0 _ rfl
  rw [c1] at f0
  have f0 : Rdx enc Tryz.prog W 3 [v0] := f0
  have f1 : Rdx enc Tryz.prog W 3 (List.take (Tryz.prog.cellsOf 3) ([v0, v1, v2, v3].drop 1)) := h2 1 _ rfl
  rw [c1] at f1
  have f1 : Rdx enc Tryz.prog W 3 [v1] := f1
  have f2 : Rdx enc Tryz.prog W 3 (List.take (Tryz.prog.cellsOf 3) ([v0, v1, v2, v3].drop 2)) := h2 2 _ rfl
  rw [c1] at f2
  have f2 : Rdx enc Tryz.prog W 3 [v2] := f2
  have f3 : Rdx enc Tryz.prog W 3 (List.take (Tryz.prog.cellsOf 3) ([v0, v1, v2, v3].drop 3)) := h2 3 _ rfl
  rw [c1] at f3
  have f3 : Rdx enc Tryz.prog W 3 [v3] := f3
  obtain ⟨n0, e0, w0⟩ := rd_int Tryz.underlying3 f0
  obtain ⟨n1, e1, w1⟩ := rd_int Tryz.underlying3 f1
  obtain ⟨n2, e2, w2⟩ := rd_int Tryz.underlying3 f2
  obtain ⟨n3, e3, w3⟩ := rd_int Tryz.underlying3 f3
  cases e0; cases e1; cases e2; cases e3
  exact ⟨⟨n0, n1, n2, n3⟩, rfl, wf_i64 w0, wf_i64 w1, wf_i64 w2, wf_i64 w3⟩
theorem rd_acts (h : Rdx enc Tryz.prog W 22 cs) : ∃ (a : Option Addr) (cap : Nat) (l : List Ac), cs = [.slice a l.length cap] ∧ l.length ≤ cap ∧ cap ≤ maxLen ∧ (∀ x ∈ l, x.ok) ∧ RSl (Old W) 4 a l.length (l.flatMap encA) :=
  rd_list Ac.ok encA Tryz.underlying22 (by kernel_rfl) (by decide) (fun _ _ h => rd_act h) h
end Go.Proofs.YtopgbgnmjogeeaaGreatDoor
/- Chapter 36: CnfOf. Conditions: what the library's variables hold (LibC). -/
namespace Go.Proofs.YtopgbgnmjogeeaaGreatDoor
set_option maxRecDepth 8000
set_option linter.unusedVariables false
set_option linter.unusedSimpArgs false
set_option linter.unusedSectionVars false
open Go Go.Z Go.Z.Aig Go.Z.Tse Go.Z.Sat Go.Z.Txt

theorem nd_uniq {S : St} {rs : List Int} {f g : Nat → Bool} (hf : ∀ u, f u = true ↔ Nd S rs u) (hg : ∀ u, g u = true ↔ Nd S rs u) : f = g := by
  funext u
  rw [Bool.eq_iff_iff, hf, hg]
theorem lits36_at {ρ : Nat → Obj → Prop} (al : Option Addr) (cl : Nat) (rs : List Int) (hl : RSl ρ 1 al rs.length (rs.map encI)) (hlen : rs.length ≤ 20) :
    Con Tryz.prog ρ 11 #[.slice al rs.length cl] [] (fun v H => ∃ a c, v = .slice a rs.length c ∧ H = [OwnSl 59 1 a rs.length c (rs.map encI)]) :=
  (lits36_ok al cl rs hl (by omega)).mono fun v H h => by rwa [List.take_of_length_le hlen] at h
theorem rsl_pre {ρ : Nat → Obj → Prop} {a : Option Addr} {rs : List Int} (h : RSl ρ 1 a rs.length (rs.map encI)) (m : Nat) : RSl ρ 1 a (rs.take m).length ((rs.take m).map encI) := by
  have := rsl_take (m := (rs.take m).length) h (by rw [List.length_take]; omega)
  rw [← List.map_take] at this
  have e : rs.take (rs.take m).length = rs.take m := by
    rw [List.length_take]
    rcases Nat.le_total m rs.length with h1 | h1
    · rw [Nat.min_eq_left h1]
    · rw [Nat.min_eq_right h1, List.take_length, List.take_of_length_le h1]
  rwa [e] at this

theorem cof_ok {ρ : Nat → Obj → Prop} (hk : LibC ρ) (a : Option Addr) (c : Nat) (l : List Ac) (hl : RSl ρ 4 a l.length (l.flatMap encA)) (hlen : l.length ≤ 9223372036854775807) (hx : ∀ x ∈ l, x.ok) (ra : Option Addr) (rc : Nat) (rs : List Int) (hr : RSl ρ 1 ra rs.length (rs.map encI)) (hrc : rs.length ≤ rc) (hrm : rc ≤ 9223372036854775807) (hI : ∀ r ∈ rs, I64 r) :
    Con Tryz.prog ρ 3 #[.slice a l.length c, .slice ra rs.length rc] [] (fun v _ => v = .bool true) := by
  have hSl := afterA_le (l.take 60)
  have hTl : (l.take 60).length ≤ 60 := by rw [List.length_take]; omega
  have hrp := rsl_pre hr 20
  have hI2 : ∀ r ∈ rs.take 20, I64 r := fun r h => hI r (List.mem_of_mem_take h)
  have hql : (rs.take 20).length ≤ 20 := by rw [List.length_take]; omega
  refine con_intro Tryz.func3 Tryz.call3 rfl Tryz.ntmps3 rfl (L := [(0, _), (1, _)]) rfl fun w hh => ?_
  refine g_seq ?_
  refine g_region ?_
  refine g_pure (p_assign rfl) rfl ?_
  refine g_nil ?_
  refine g_qt ?_
  refine g_seq ?_
  refine g_region ?_
  refine g_pure (p_move rfl) rfl ?_
  refine g_call (Hin := []) (Hr := ?hr1) (R := ?rr1) rfl rfl rfl ?hin1 ?hc1 ?hk1
  case hin1 => repeat' (first | exact Cover.nil | exact Take.here | apply Cover.cons | apply Take.there)
  case hc1 => intro ρ' hρ hR; exact built36_ok a c l (hl.mono hρ) hlen hx
  rintro _ _ ⟨p, rfl, rfl⟩
  generalize afterA (l.take 60) = S at hSl
  refine gr_wf (p := p) (S := S) (by repeat' (first | exact Take.here | apply Take.there)) fun hw => ?_
  have hpos := hw.pos
  refine g_pure (p_move rfl) rfl ?_
  refine g_pure (p_extract rfl rfl) rfl ?_
  refine g_pure (p_extract rfl rfl) rfl ?_
  refine g_pure (p_assign rfl) rfl ?_
  refine g_pure (p_assign rfl) rfl ?_
  refine g_nil ?_
  refine g_qt ?_
  refine g_seq ?_
  refine g_seq ?_
  refine g_region ?_
  refine g_pure (p_move rfl) rfl ?_
  refine g_pure (p_eqnil (by rfl) rfl rfl) rfl ?_
  refine g_pure (p_move rfl) rfl ?_
  refine g_yes rfl rfl ?_
  refine g_pure (p_move rfl) rfl ?_
  refine g_yes rfl rfl ?_
  refine g_call (Hin := []) (Hr := ?hr2) (R := ?rr2) rfl rfl rfl ?hin2 ?hc2 ?hk2
  case hin2 => repeat' (first | exact Cover.nil | exact Take.here | apply Cover.cons | apply Take.there)
  case hc2 => intro ρ' hρ hR; exact glen_ok p S (Take.ro (A := Gr p S) (by repeat' (first | exact Take.here | apply Take.there)) hR)
  rintro _ _ ⟨rfl, rfl⟩
  refine g_yes rfl rfl ?_
  refine g_pure (p_lss rfl rfl) rfl ?_
  first | refine g_pure (p_pickt rfl rfl) rfl ?_ | refine g_pure (p_pickf rfl rfl) rfl ?_
  refine g_nil ?_
  refine g_qt ?_
  refine g_ifd rfl (fun z => ?_) (fun z => ?_)
  · exfalso; omega
  · refine g_skip ?_
    refine g_qt ?_
    refine g_seq ?_
    refine g_seq ?_
    refine g_region ?_
    refine g_pure (p_move rfl) rfl ?_
    refine g_pure (p_len (by rfl) rfl) rfl ?_
    refine g_pure (p_gtr rfl rfl) rfl ?_
    refine g_nil ?_
    refine g_qt ?_
    refine g_join (fun _ : Unit => [(1, .slice ra (rs.take 20).length rc), (5, .pointer (some ⟨p, 0, none⟩))]) (fun _ => [Gr p S]) (fun _ => True) ?_ ?_
    · refine g_ifd rfl (fun h => ?_) (fun h => ?_)
      · refine g_region ?_
        refine g_pure (p_move rfl) rfl ?_
        refine g_pure (p_sliceh rfl rfl (by omega)) rfl ?_
        refine g_pure (p_assign rfl) rfl ?_
        refine g_nil ?_
        refine g_qn ?_
        rw [show (20 : Int).toNat = (rs.take 20).length by rw [List.length_take]; omega]
        exact g_joined () (by (repeat (first | exact trivial | refine ⟨by rfl, ?_⟩)); done) (by repeat' (first | exact Cover.nil | exact Take.here | apply Cover.cons | apply Take.there)) trivial
      · refine g_skip ?_
        refine g_qn ?_
        rw [show rs.length = (rs.take 20).length by rw [List.length_take]; omega]
        exact g_joined () (by (repeat (first | exact trivial | refine ⟨by rfl, ?_⟩)); done) (by repeat' (first | exact Cover.nil | exact Take.here | apply Cover.cons | apply Take.there)) trivial
    rintro _ _
    refine g_qt ?_
    generalize rs.take 20 = qs at hrp hI2 hql
    refine g_seq ?_
    refine g_region ?_
    refine g_pure (p_move rfl) rfl ?_
    refine g_pure (p_move rfl) rfl ?_
    refine g_call (Hin := []) (Hr := ?hr3) (R := ?rr3) rfl rfl rfl ?hin3 ?hc3 ?hk3
    case hin3 => repeat' (first | exact Cover.nil | exact Take.here | apply Cover.cons | apply Take.there)
    case hc3 => intro ρ' hρ hR; exact lits36_at ra rc qs (hrp.mono hρ) hql
    rintro _ _ ⟨la, lc, rfl, rfl⟩
    by_cases hall : ∀ r ∈ qs, has S r
    · refine g_call (Hin := []) (Hr := ?hr4) (R := ?rr4) rfl rfl rfl ?hin4 ?hc4 ?hk4
      case hin4 => repeat' (first | exact Cover.nil | exact Take.here | apply Cover.cons | apply Take.there)
      case hc4 => intro ρ' hρ hR; exact of_ok p S hw (Take.ro (A := Gr p S) (by repeat' (first | exact Take.here | apply Take.there)) hR) la lc qs (RSl.of_own (Take.ro (A := OwnSl 59 1 la qs.length lc (qs.map encI)) (by repeat' (first | exact Take.here | apply Take.there)) hR)) (by omega) hall
      rintro _ _ ⟨ca, cc, nd, hnd, rfl, rfl⟩
      refine g_pure (p_move rfl) rfl ?_
      refine g_pure (p_extract rfl rfl) rfl ?_
      refine g_pure (p_extract rfl rfl) rfl ?_
      refine g_eff (e_alloc (by rfl)) rfl (fun _ _ => ?_)
      rintro ⟨b7, rfl, rfl⟩
      first | refine g_eff0 (e_storeO rfl rfl (by rfl) (by rfl) (by rfl) (by repeat' (first | exact Take.here | apply Take.there)) (by rfl)) (fun _ _ => ?_) | refine g_eff0 (e_storeN rfl rfl (by rfl) (by rfl) (by rfl) (by repeat' (first | exact Take.here | apply Take.there)) (by simp)) (fun _ _ => ?_)
      rintro rfl
      refine g_pure (p_assign rfl) rfl ?_
      refine g_nil ?_
      refine g_qt ?_
      refine g_seq ?_
      refine g_region ?_
      refine g_pure (p_move rfl) rfl ?_
      refine g_call (Hin := []) (Hr := ?hr5) (R := ?rr5) rfl rfl rfl ?hin5 ?hc5 ?hk5
      case hin5 => repeat' (first | exact Cover.nil | exact Take.here | apply Cover.cons | apply Take.there)
      case hc5 => intro ρ' hρ hR; exact gates36_ok p S hw (Take.ro (A := Gr p S) (by repeat' (first | exact Take.here | apply Take.there)) hR)
      rintro _ _ ⟨a1, c1, a2, c2, a3, c3, rfl, rfl⟩
      refine g_pure (p_move rfl) rfl ?_
      refine g_call (Hin := []) (Hr := ?hr6) (R := ?rr6) rfl rfl rfl ?hin6 ?hc6 ?hk6
      case hin6 => repeat' (first | exact Cover.nil | exact Take.here | apply Cover.cons | apply Take.there)
      case hc6 => intro ρ' hρ hR; exact dof36_ok S hw a1 a2 a3 c1 c2 c3 ⟨RSl.of_own (Take.ro (A := OwnSl 4 1 a1 S.length c1 ((isV S S.length).map encB)) (by repeat' (first | exact Take.here | apply Take.there)) hR), RSl.of_own (Take.ro (A := OwnSl 3 1 a2 S.length c2 ((aV S S.length).map encI)) (by repeat' (first | exact Take.here | apply Take.there)) hR), RSl.of_own (Take.ro (A := OwnSl 3 1 a3 S.length c3 ((bV S S.length).map encI)) (by repeat' (first | exact Take.here | apply Take.there)) hR)⟩ ra rc qs (hrp.mono hρ) (by omega) hall
      rintro _ _ ⟨ca2, cc2, nd2, hnd2, rfl, rfl⟩
      obtain rfl := nd_uniq hnd hnd2
      have hfl := cnf_len S nd qs
      refine g_pure (p_move rfl) rfl ?_
      refine g_pure (p_extract rfl rfl) rfl ?_
      refine g_pure (p_extract rfl rfl) rfl ?_
      refine g_eff (e_alloc (by rfl)) rfl (fun _ _ => ?_)
      rintro ⟨b9, rfl, rfl⟩
      first | refine g_eff0 (e_storeO rfl rfl (by rfl) (by rfl) (by rfl) (by repeat' (first | exact Take.here | apply Take.there)) (by rfl)) (fun _ _ => ?_) | refine g_eff0 (e_storeN rfl rfl (by rfl) (by rfl) (by rfl) (by repeat' (first | exact Take.here | apply Take.there)) (by simp)) (fun _ _ => ?_)
      rintro rfl
      refine g_pure (p_assign rfl) rfl ?_
      refine g_nil ?_
      refine g_qt ?_
      refine g_seq ?_
      refine g_region ?_
      refine g_pure (p_move rfl) rfl ?_
      refine g_pure (p_move rfl) rfl ?_
      refine g_pure (p_eqlT rfl rfl rfl) rfl ?_
      refine g_pure (p_move rfl) rfl ?_
      refine g_yes rfl rfl ?_
      first | refine g_pure (p_loadO (by rfl) rfl (by first | (apply Has.own; (repeat' (first | exact Take.here | apply Take.there)); done) | exact Has.ro (by assumption)) (by rfl)) rfl ?_ | refine g_pure (p_loadN (by rfl) rfl (by first | (apply Has.own; (repeat' (first | exact Take.here | apply Take.there)); done) | exact Has.ro (by assumption)) (by first | rfl | assumption)) rfl ?_
      refine g_yes rfl rfl ?_
      first | refine g_pure (p_loadO (by rfl) rfl (by first | (apply Has.own; (repeat' (first | exact Take.here | apply Take.there)); done) | exact Has.ro (by assumption)) (by rfl)) rfl ?_ | refine g_pure (p_loadN (by rfl) rfl (by first | (apply Has.own; (repeat' (first | exact Take.here | apply Take.there)); done) | exact Has.ro (by assumption)) (by first | rfl | assumption)) rfl ?_
      refine g_yes rfl rfl ?_
      refine g_call (Hin := []) (Hr := ?hr7) (R := ?rr7) rfl rfl rfl ?hin7 ?hc7 ?hk7
      case hin7 => repeat' (first | exact Cover.nil | exact Take.here | apply Cover.cons | apply Take.there)
      case hc7 => intro ρ' hρ hR; exact dsame_ok ((S.length : Int) - 1) ca ca2 cc cc2 (cnfF S nd qs) (cnf_FmR hw nd hall (by omega) (Own2.ro (Take.ro (A := Own2 79 3 ca cc ((cnfF S nd qs).map encCl)) (by repeat' (first | exact Take.here | apply Take.there)) hR))) (cnf_FmR hw nd hall (by omega) (Own2.ro (Take.ro (A := Own2 79 3 ca2 cc2 ((cnfF S nd qs).map encCl)) (by repeat' (first | exact Take.here | apply Take.there)) hR)))
      rintro _ _ ⟨rfl, rfl⟩
      first | refine g_pure (p_pickt rfl rfl) rfl ?_ | refine g_pure (p_pickf rfl rfl) rfl ?_
      refine g_pure (p_move rfl) rfl ?_
      refine g_yes rfl rfl ?_
      refine g_call (Hin := []) (Hr := ?hr8) (R := ?rr8) rfl rfl rfl ?hin8 ?hc8 ?hk8
      case hin8 => repeat' (first | exact Cover.nil | exact Take.here | apply Cover.cons | apply Take.there)
      case hc8 => intro ρ' hρ hR; exact awake36_ok (hk.mono hρ)
      rintro _ _ ⟨rfl, rfl⟩
      first | refine g_pure (p_pickt rfl rfl) rfl ?_ | refine g_pure (p_pickf rfl rfl) rfl ?_
      refine g_pure (p_assign rfl) rfl ?_
      refine g_nil ?_
      refine g_qt ?_
      refine g_ret ?_
      exact g_post (Ho := []) (rs := [.tmp 4]) rfl (.tmp rfl .nil) rfl .nil
    · refine g_call (Hin := []) (Hr := ?hr9) (R := ?rr9) rfl rfl rfl ?hin9 ?hc9 ?hk9
      case hin9 => repeat' (first | exact Cover.nil | exact Take.here | apply Cover.cons | apply Take.there)
      case hc9 => intro ρ' hρ hR; exact of_no p S hw (Take.ro (A := Gr p S) (by repeat' (first | exact Take.here | apply Take.there)) hR) la lc qs (RSl.of_own (Take.ro (A := OwnSl 59 1 la qs.length lc (qs.map encI)) (by repeat' (first | exact Take.here | apply Take.there)) hR)) (by omega) hI2 hall
      rintro _ _ ⟨rfl, rfl⟩
      refine g_pure (p_move rfl) rfl ?_
      refine g_pure (p_extract rfl rfl) rfl ?_
      refine g_pure (p_extract rfl rfl) rfl ?_
      refine g_eff (e_alloc (by rfl)) rfl (fun _ _ => ?_)
      rintro ⟨b7, rfl, rfl⟩
      first | refine g_eff0 (e_storeO rfl rfl (by rfl) (by rfl) (by rfl) (by repeat' (first | exact Take.here | apply Take.there)) (by rfl)) (fun _ _ => ?_) | refine g_eff0 (e_storeN rfl rfl (by rfl) (by rfl) (by rfl) (by repeat' (first | exact Take.here | apply Take.there)) (by simp)) (fun _ _ => ?_)
      rintro rfl
      refine g_pure (p_assign rfl) rfl ?_
      refine g_nil ?_
      refine g_qt ?_
      refine g_seq ?_
      refine g_region ?_
      refine g_pure (p_move rfl) rfl ?_
      refine g_call (Hin := []) (Hr := ?hr10) (R := ?rr10) rfl rfl rfl ?hin10 ?hc10 ?hk10
      case hin10 => repeat' (first | exact Cover.nil | exact Take.here | apply Cover.cons | apply Take.there)
      case hc10 => intro ρ' hρ hR; exact gates36_ok p S hw (Take.ro (A := Gr p S) (by repeat' (first | exact Take.here | apply Take.there)) hR)
      rintro _ _ ⟨a1, c1, a2, c2, a3, c3, rfl, rfl⟩
      refine g_pure (p_move rfl) rfl ?_
      refine g_call (Hin := []) (Hr := ?hr11) (R := ?rr11) rfl rfl rfl ?hin11 ?hc11 ?hk11
      case hin11 => repeat' (first | exact Cover.nil | exact Take.here | apply Cover.cons | apply Take.there)
      case hc11 => intro ρ' hρ hR; exact dof36_no S hw a1 a2 a3 c1 c2 c3 ra rc qs (hrp.mono hρ) (by omega) hI2 hall
      rintro _ _ ⟨rfl, rfl⟩
      refine g_pure (p_move rfl) rfl ?_
      refine g_pure (p_extract rfl rfl) rfl ?_
      refine g_pure (p_extract rfl rfl) rfl ?_
      refine g_eff (e_alloc (by rfl)) rfl (fun _ _ => ?_)
      rintro ⟨b9, rfl, rfl⟩
      first | refine g_eff0 (e_storeO rfl rfl (by rfl) (by rfl) (by rfl) (by repeat' (first | exact Take.here | apply Take.there)) (by rfl)) (fun _ _ => ?_) | refine g_eff0 (e_storeN rfl rfl (by rfl) (by rfl) (by rfl) (by repeat' (first | exact Take.here | apply Take.there)) (by simp)) (fun _ _ => ?_)
      rintro rfl
      refine g_pure (p_assign rfl) rfl ?_
      refine g_nil ?_
      refine g_qt ?_
      refine g_seq ?_
      refine g_region ?_
      refine g_pure (p_move rfl) rfl ?_
      refine g_pure (p_move rfl) rfl ?_
      refine g_pure (p_eqlT rfl rfl rfl) rfl ?_
      refine g_pure (p_move rfl) rfl ?_
      refine g_yes rfl rfl ?_
      first | refine g_pure (p_loadO (by rfl) rfl (by first | (apply Has.own; (repeat' (first | exact Take.here | apply Take.there)); done) | exact Has.ro (by assumption)) (by rfl)) rfl ?_ | refine g_pure (p_loadN (by rfl) rfl (by first | (apply Has.own; (repeat' (first | exact Take.here | apply Take.there)); done) | exact Has.ro (by assumption)) (by first | rfl | assumption)) rfl ?_
      refine g_yes rfl rfl ?_
      first | refine g_pure (p_loadO (by rfl) rfl (by first | (apply Has.own; (repeat' (first | exact Take.here | apply Take.there)); done) | exact Has.ro (by assumption)) (by rfl)) rfl ?_ | refine g_pure (p_loadN (by rfl) rfl (by first | (apply Has.own; (repeat' (first | exact Take.here | apply Take.there)); done) | exact Has.ro (by assumption)) (by first | rfl | assumption)) rfl ?_
      refine g_yes rfl rfl ?_
      refine g_call (Hin := []) (Hr := ?hr12) (R := ?rr12) rfl rfl rfl ?hin12 ?hc12 ?hk12
      case hin12 => repeat' (first | exact Cover.nil | exact Take.here | apply Cover.cons | apply Take.there)
      case hc12 => intro ρ' hρ hR; exact dsame_ok 0 none none 0 0 [] nil_ro nil_ro
      rintro _ _ ⟨rfl, rfl⟩
      first | refine g_pure (p_pickt rfl rfl) rfl ?_ | refine g_pure (p_pickf rfl rfl) rfl ?_
      refine g_pure (p_move rfl) rfl ?_
      refine g_yes rfl rfl ?_
      refine g_call (Hin := []) (Hr := ?hr13) (R := ?rr13) rfl rfl rfl ?hin13 ?hc13 ?hk13
      case hin13 => repeat' (first | exact Cover.nil | exact Take.here | apply Cover.cons | apply Take.there)
      case hc13 => intro ρ' hρ hR; exact awake36_ok (hk.mono hρ)
      rintro _ _ ⟨rfl, rfl⟩
      first | refine g_pure (p_pickt rfl rfl) rfl ?_ | refine g_pure (p_pickf rfl rfl) rfl ?_
      refine g_pure (p_assign rfl) rfl ?_
      refine g_nil ?_
      refine g_qt ?_
      refine g_ret ?_
      exact g_post (Ho := []) (rs := [.tmp 4]) rfl (.tmp rfl .nil) rfl .nil
end Go.Proofs.YtopgbgnmjogeeaaGreatDoor
/- Chapter 36: CnfModels. Conditions: what the library's variables hold (LibC). -/
namespace Go.Proofs.YtopgbgnmjogeeaaGreatDoor
set_option maxRecDepth 8000
set_option linter.unusedVariables false
set_option linter.unusedSimpArgs false
set_option linter.unusedSectionVars false
open Go Go.Z Go.Z.Aig Go.Z.Tse Go.Z.Sat Go.Z.Txt

theorem eval_lits {S : St} {inp : List Bool} (hi : inp.length = (ins 0 S).length) {rs : List Int} (h : ∀ r ∈ rs, has S r) : eval1 S inp rs = (rs.map (litv (vals S inp)), 0) := by
  unfold eval1
  rw [if_neg (by omega), if_pos]
  rw [List.all_eq_true]
  exact fun x hx => hasB_iff.2 (h x hx)
theorem all_step {ys : List Bool} {k : Nat} (hk : k < ys.length) : (ys.take (k + 1)).all id = ((ys.take k).all id && ys[k]) := by
  rw [List.take_add_one, List.getElem?_eq_getElem hk, List.all_append]; simp
theorem all_litv (f : Int → Bool) (rs : List Int) : (rs.map f).all id = rs.all f := by
  rw [List.all_map]; rfl
theorem cmodels_ok {ρ : Nat → Obj → Prop} (hk : LibC ρ) (a : Option Addr) (c : Nat) (l : List Ac) (hl : RSl ρ 4 a l.length (l.flatMap encA)) (hlen : l.length ≤ 9223372036854775807) (hx : ∀ x ∈ l, x.ok) (ia : Option Addr) (ic : Nat) (inp : List Bool) (hin : RSl ρ 1 ia inp.length (inp.map encB)) (hil : inp.length ≤ 9223372036854775807) (ra : Option Addr) (rc : Nat) (rs : List Int) (hr : RSl ρ 1 ra rs.length (rs.map encI)) (hrm : rs.length ≤ 9223372036854775807) (hI : ∀ r ∈ rs, I64 r) :
    Con Tryz.prog ρ 6 #[.slice a l.length c, .slice ia inp.length ic, .slice ra rs.length rc] [] (fun v _ => v = .bool true) := by
  have hSl := afterA_le (l.take 60)
  have hTl : (l.take 60).length ≤ 60 := by rw [List.length_take]; omega
  have hI2 : ∀ r ∈ rs.take 20, I64 r := fun r h => hI r (List.mem_of_mem_take h)
  have hql : (rs.take 20).length ≤ 20 := by rw [List.length_take]; omega
  refine con_intro Tryz.func6 Tryz.call6 rfl Tryz.ntmps6 rfl (L := [(0, _), (1, _), (2, _)]) rfl fun w hh => ?_
  refine g_seq ?_
  refine g_region ?_
  refine g_pure (p_assign rfl) rfl ?_
  refine g_nil ?_
  refine g_qt ?_
  refine g_seq ?_
  refine g_region ?_
  refine g_pure (p_move rfl) rfl ?_
  refine g_call (Hin := []) (Hr := ?hr1) (R := ?rr1) rfl rfl rfl ?hin1 ?hc1 ?hk1
  case hin1 => repeat' (first | exact Cover.nil | exact Take.here | apply Cover.cons | apply Take.there)
  case hc1 => intro ρ' hρ hR; exact built36_ok a c l (hl.mono hρ) hlen hx
  rintro _ _ ⟨p, rfl, rfl⟩
  generalize afterA (l.take 60) = S at hSl
  refine gr_wf (p := p) (S := S) (by repeat' (first | exact Take.here | apply Take.there)) fun hw => ?_
  have hpos := hw.pos
  have hlim := hw.lim
  have hinl := ins_le S 0
  refine g_pure (p_move rfl) rfl ?_
  refine g_pure (p_extract rfl rfl) rfl ?_
  refine g_pure (p_extract rfl rfl) rfl ?_
  refine g_pure (p_assign rfl) rfl ?_
  refine g_pure (p_assign rfl) rfl ?_
  refine g_nil ?_
  refine g_qt ?_
  refine g_seq ?_
  refine g_seq ?_
  refine g_region ?_
  refine g_pure (p_move rfl) rfl ?_
  refine g_pure (p_eqnil (by rfl) rfl rfl) rfl ?_
  refine g_nil ?_
  refine g_qt ?_
  refine g_iff rfl ?_
  refine g_skip ?_
  refine g_qt ?_
  refine g_seq ?_
  refine g_region ?_
  refine g_pure (p_move rfl) rfl ?_
  refine g_call (Hin := []) (Hr := ?hr2) (R := ?rr2) rfl rfl rfl ?hin2 ?hc2 ?hk2
  case hin2 => repeat' (first | exact Cover.nil | exact Take.here | apply Cover.cons | apply Take.there)
  case hc2 => intro ρ' hρ hR; exact lits36_ok ra rc rs (hr.mono hρ) hrm
  rintro _ _ ⟨la, lc, rfl, rfl⟩
  generalize rs.take 20 = qs at hI2 hql
  refine g_pure (p_assign rfl) rfl ?_
  refine g_nil ?_
  refine g_qt ?_
  refine g_seq ?_
  refine g_region ?_
  refine g_pure (p_move rfl) rfl ?_
  refine g_pure (p_move rfl) rfl ?_
  by_cases hall : ∀ r ∈ qs, has S r
  · have hbl := bitsF_len inp (ins 0 S).length
    have hvl : ((vals S (bitsF inp (ins 0 S).length)).drop 1).length = S.length - 1 := by rw [List.length_drop, vals_len hw]
    have hml := fun nd => models_law hw nd hall (bitsF inp (ins 0 S).length)
    have hevl := eval_lits hbl hall
    obtain ⟨bs, hbsd⟩ : ∃ bs, bitsF inp (ins 0 S).length = bs := ⟨_, rfl⟩
    rw [hbsd] at hbl hvl hml hevl
    have hyl : (qs.map (litv (vals S bs))).length = qs.length := List.length_map _
    have hal := all_litv (litv (vals S bs)) qs
    refine g_call (Hin := []) (Hr := ?hr3) (R := ?rr3) rfl rfl rfl ?hin3 ?hc3 ?hk3
    case hin3 => repeat' (first | exact Cover.nil | exact Take.here | apply Cover.cons | apply Take.there)
    case hc3 => intro ρ' hρ hR; exact of_ok p S hw (Take.ro (A := Gr p S) (by repeat' (first | exact Take.here | apply Take.there)) hR) la lc qs (RSl.of_own (Take.ro (A := OwnSl 59 1 la qs.length lc (qs.map encI)) (by repeat' (first | exact Take.here | apply Take.there)) hR)) (by omega) hall
    rintro _ _ ⟨ca, cc, nd, hnd, rfl, rfl⟩
    have hml := hml nd
    have hfl := cnf_len S nd qs
    refine g_pure (p_move rfl) rfl ?_
    refine g_pure (p_extract rfl rfl) rfl ?_
    refine g_pure (p_extract rfl rfl) rfl ?_
    refine g_eff (e_alloc (by rfl)) rfl (fun _ _ => ?_)
    rintro ⟨b10, rfl, rfl⟩
    first | refine g_eff0 (e_storeO rfl rfl (by rfl) (by rfl) (by rfl) (by repeat' (first | exact Take.here | apply Take.there)) (by rfl)) (fun _ _ => ?_) | refine g_eff0 (e_storeN rfl rfl (by rfl) (by rfl) (by rfl) (by repeat' (first | exact Take.here | apply Take.there)) (by simp)) (fun _ _ => ?_)
    rintro rfl
    refine g_pure (p_assign rfl) rfl ?_
    refine g_nil ?_
    refine g_qt ?_
    refine g_seq ?_
    refine g_seq ?_
    refine g_region ?_
    refine g_pure (p_move rfl) rfl ?_
    refine g_pure (p_neqF rfl rfl rfl) rfl ?_
    refine g_nil ?_
    refine g_qt ?_
    refine g_iff rfl ?_
    refine g_skip ?_
    refine g_qt ?_
    refine g_seq ?_
    refine g_region ?_
    refine g_pure (p_move rfl) rfl ?_
    refine g_pure (p_move rfl) rfl ?_
    refine g_pure (p_move rfl) rfl ?_
    refine g_call (Hin := []) (Hr := ?hr4) (R := ?rr4) rfl rfl rfl ?hin4 ?hc4 ?hk4
    case hin4 => repeat' (first | exact Cover.nil | exact Take.here | apply Cover.cons | apply Take.there)
    case hc4 => intro ρ' hρ hR; exact (bits36_ok ia ic inp (hin.mono hρ) hil (ins 0 S).length (by omega)).mono (R' := fun v H => ∃ a c, v = .slice a bs.length c ∧ H = [OwnSl 4 1 a bs.length c (bs.map encB)]) (fun v H ⟨a0, c0, h1, h2⟩ => ⟨a0, c0, by rw [hbl]; exact h1, by rw [hbl, ← hbsd]; exact h2⟩)
    rintro _ _ ⟨ba, bc, rfl, rfl⟩
    refine g_call (Hin := []) (Hr := ?hr5) (R := ?rr5) rfl rfl rfl ?hin5 ?hc5 ?hk5
    case hin5 => repeat' (first | exact Cover.nil | exact Take.here | apply Cover.cons | apply Take.there)
    case hc5 => intro ρ' hρ hR; exact all36_ok p S hw (Take.ro (A := Gr p S) (by repeat' (first | exact Take.here | apply Take.there)) hR) ba bc bs (RSl.of_own (Take.ro (A := OwnSl 4 1 ba bs.length bc (bs.map encB)) (by repeat' (first | exact Take.here | apply Take.there)) hR)) hbl
    rintro _ _ ⟨ma, mc, rfl, rfl⟩
    refine g_pure (p_move rfl) rfl ?_
    refine g_pure (p_extract rfl rfl) rfl ?_
    refine g_pure (p_extract rfl rfl) rfl ?_
    refine g_pure (p_assign rfl) rfl ?_
    refine g_pure (p_assign rfl) rfl ?_
    refine g_nil ?_
    refine g_qt ?_
    refine g_seq ?_
    refine g_region ?_
    refine g_pure (p_move rfl) rfl ?_
    refine g_pure (p_move rfl) rfl ?_
    refine g_pure (p_move rfl) rfl ?_
    refine g_call (Hin := []) (Hr := ?hr6) (R := ?rr6) rfl rfl rfl ?hin6 ?hc6 ?hk6
    case hin6 => repeat' (first | exact Cover.nil | exact Take.here | apply Cover.cons | apply Take.there)
    case hc6 => intro ρ' hρ hR; exact (bits36_ok ia ic inp (hin.mono hρ) hil (ins 0 S).length (by omega)).mono (R' := fun v H => ∃ a c, v = .slice a bs.length c ∧ H = [OwnSl 4 1 a bs.length c (bs.map encB)]) (fun v H ⟨a0, c0, h1, h2⟩ => ⟨a0, c0, by rw [hbl]; exact h1, by rw [hbl, ← hbsd]; exact h2⟩)
    rintro _ _ ⟨ba2, bc2, rfl, rfl⟩
    refine g_pure (p_move rfl) rfl ?_
    refine g_call (Hin := []) (Hr := ?hr7) (R := ?rr7) rfl rfl rfl ?hin7 ?hc7 ?hk7
    case hin7 => repeat' (first | exact Cover.nil | exact Take.here | apply Cover.cons | apply Take.there)
    case hc7 => intro ρ' hρ hR; exact eval_at hevl (RSl.of_own (Take.ro (A := OwnSl 4 1 ba2 bs.length bc2 (bs.map encB)) (by repeat' (first | exact Take.here | apply Take.there)) hR)) (RSl.of_own (Take.ro (A := OwnSl 59 1 la qs.length lc (qs.map encI)) (by repeat' (first | exact Take.here | apply Take.there)) hR)) (by omega) (by omega) hI2 (Take.ro (A := Gr p S) (by repeat' (first | exact Take.here | apply Take.there)) hR)
    rintro _ _ ⟨ya, yc, rfl, rfl⟩
    generalize qs.map (litv (vals S bs)) = ys at hyl hal
    refine g_pure (p_move rfl) rfl ?_
    refine g_pure (p_extract rfl rfl) rfl ?_
    refine g_pure (p_extract rfl rfl) rfl ?_
    refine g_pure (p_assign rfl) rfl ?_
    refine g_pure (p_assign rfl) rfl ?_
    refine g_nil ?_
    refine g_qt ?_
    refine g_seq ?_
    refine g_seq ?_
    refine g_region ?_
    refine g_pure (p_move rfl) rfl ?_
    refine g_pure (p_not rfl) rfl ?_
    refine g_pure (p_move rfl) rfl ?_
    refine g_yes rfl rfl ?_
    refine g_pure (p_move rfl) rfl ?_
    refine g_yes rfl rfl ?_
    refine g_pure (p_neqF rfl rfl rfl) rfl ?_
    first | refine g_pure (p_pickt rfl rfl) rfl ?_ | refine g_pure (p_pickf rfl rfl) rfl ?_
    refine g_pure (p_move rfl) rfl ?_
    refine g_yes rfl rfl ?_
    refine g_pure (p_move rfl) rfl ?_
    refine g_yes rfl rfl ?_
    refine g_pure (p_len (by rfl) rfl) rfl ?_
    refine g_yes rfl rfl ?_
    refine g_pure (p_move rfl) rfl ?_
    refine g_yes rfl rfl ?_
    refine g_pure (p_len (by rfl) rfl) rfl ?_
    refine g_yes rfl rfl ?_
    refine g_pure (p_neqF rfl rfl (by rw [hyl])) rfl ?_
    first | refine g_pure (p_pickt rfl rfl) rfl ?_ | refine g_pure (p_pickf rfl rfl) rfl ?_
    refine g_nil ?_
    refine g_qt ?_
    refine g_iff rfl ?_
    refine g_skip ?_
    refine g_qt ?_
    refine g_seq ?_
    refine g_region ?_
    refine g_pure (p_assign rfl) rfl ?_
    refine g_nil ?_
    refine g_qt ?_
    refine g_seq ?_
    refine g_seq ?_
    refine g_region ?_
    refine g_pure (p_assign rfl) rfl ?_
    refine g_nil ?_
    refine g_qt ?_
    refine g_block ?_
    refine g_loop (fun q : Nat × Bool => [(7, .pointer (some ⟨p, 0, none⟩)), (10, .pointer (some ⟨b10, 0, none⟩)), (12, .slice ma ((vals S bs).drop 1).length mc), (14, .slice ya ys.length yc), (16, .bool q.2), (17, .int .i64 q.1)])
      (fun _ => [Blk b10 (.cells [.int .i64 ((S.length : Int) - 1), .slice ca (cnfF S nd qs).length cc].toArray 30 (0, 0)), Own2 79 3 ca cc ((cnfF S nd qs).map encCl), OwnSl 4 1 ma ((vals S bs).drop 1).length mc (((vals S bs).drop 1).map encB), OwnSl 4 1 ya ys.length yc (ys.map encB)])
      (fun q => q.1 ≤ ys.length ∧ q.2 = (ys.take q.1).all id) (fun q => ys.length - q.1) (0, true) ⟨Nat.zero_le _, rfl⟩ (by (repeat (first | exact trivial | refine ⟨by rfl, ?_⟩)); done) (by repeat' (first | exact Cover.nil | exact Take.here | apply Cover.cons | apply Take.there)) ?_
    rintro ⟨k, y⟩ ⟨hkl, hy⟩
    dsimp only at hkl hy ⊢
    refine g_seq ?_
    refine g_seq ?_
    refine g_region ?_
    refine g_pure (p_move rfl) rfl ?_
    refine g_pure (p_move rfl) rfl ?_
    refine g_pure (p_len (by rfl) rfl) rfl ?_
    refine g_pure (p_lss rfl rfl) rfl ?_
    refine g_nil ?_
    refine g_qt ?_
    refine g_ifd rfl (fun q => ?_) (fun q => ?_)
    · have hk2 : k < ys.length := by omega
      have hst := all_step hk2
      rw [← hy] at hst
      refine g_own (e := 4) (a1 := ya) (k := ys.length) (cap := yc) (xs := ys.map encB) (by repeat' (first | exact Take.here | apply Take.there)) (fun _ h _ _ => absurd h (by omega)) (fun g cur r1 r2 r3 r4 r5 r6 => ?_)
      subst r1
      have hcy : cur[0 + (k : Int).toNat * 1]? = some (.bool ys[k]) := own_at (k := k) r5 (by simp) (by simp [List.getElem?_eq_getElem hk2, encB])
      generalize ys[k] = u at hst hcy
      cases y with
      | true =>
        refine g_skip ?_
        refine g_qt ?_
        refine g_seq ?_
        refine g_block ?_
        refine g_region ?_
        refine g_pure (p_move rfl) rfl ?_
        refine g_pure (p_move rfl) rfl ?_
        refine g_yes rfl rfl ?_
        refine g_pure (p_move rfl) rfl ?_
        refine g_yes rfl rfl ?_
        refine g_pure (p_move rfl) rfl ?_
        refine g_yes rfl rfl ?_
        refine g_pure (p_indexAddr rfl rfl (by omega) (fun _ => rfl)) rfl ?_
        refine g_yes rfl rfl ?_
        refine g_pure (p_load (by rfl) rfl (Has.own (by repeat' (first | exact Take.here | apply Take.there))) hcy) rfl ?_
        first | refine g_pure (p_pickt rfl rfl) rfl ?_ | refine g_pure (p_pickf rfl rfl) rfl ?_
        refine g_pure (p_assign rfl) rfl ?_
        refine g_nil ?_
        refine g_qb ?_
        refine g_qt ?_
        refine g_region ?_
        refine g_pure (p_move rfl) rfl ?_
        first | refine g_pure (p_addi rfl rfl (by omega)) rfl ?_ | refine g_pure (p_add rfl rfl) rfl ?_
        refine g_pure (p_assign rfl) rfl ?_
        refine g_nil ?_
        refine g_qn ?_
        refine g_fold (k := ys.length) (cap := yc) (size := 1) (g := g) (xs := ys.map encB) (by repeat' (first | exact Take.here | apply Take.there)) r2 r3 r4 r5 ?_
        exact g_next (k + 1, u) (by (repeat (first | exact trivial | refine ⟨by rfl, ?_⟩)); done) (by repeat' (first | exact Cover.nil | exact Take.here | apply Cover.cons | apply Take.there)) ⟨by dsimp only; omega, by dsimp only; rw [hst]; rfl⟩ (by dsimp only; omega)
      | false =>
        refine g_skip ?_
        refine g_qt ?_
        refine g_seq ?_
        refine g_block ?_
        refine g_region ?_
        refine g_pure (p_move rfl) rfl ?_
        refine g_pure (p_move rfl) rfl ?_
        refine g_no rfl rfl rfl rfl ?_
        refine g_no rfl rfl rfl rfl ?_
        refine g_no rfl rfl rfl rfl ?_
        refine g_no rfl rfl rfl rfl ?_
        first | refine g_pure (p_pickt rfl rfl) rfl ?_ | refine g_pure (p_pickf rfl rfl) rfl ?_
        refine g_pure (p_assign rfl) rfl ?_
        refine g_nil ?_
        refine g_qb ?_
        refine g_qt ?_
        refine g_region ?_
        refine g_pure (p_move rfl) rfl ?_
        first | refine g_pure (p_addi rfl rfl (by omega)) rfl ?_ | refine g_pure (p_add rfl rfl) rfl ?_
        refine g_pure (p_assign rfl) rfl ?_
        refine g_nil ?_
        refine g_qn ?_
        refine g_fold (k := ys.length) (cap := yc) (size := 1) (g := g) (xs := ys.map encB) (by repeat' (first | exact Take.here | apply Take.there)) r2 r3 r4 r5 ?_
        exact g_next (k + 1, false) (by (repeat (first | exact trivial | refine ⟨by rfl, ?_⟩)); done) (by repeat' (first | exact Cover.nil | exact Take.here | apply Cover.cons | apply Take.there)) ⟨by dsimp only; omega, by dsimp only; rw [hst]; rfl⟩ (by dsimp only; omega)
    · have hke : k = ys.length := by omega
      subst hke
      rw [List.take_length] at hy
      rw [hal] at hy
      refine g_exit ?_
      refine g_qt_exit ?_
      refine g_qn_exit ?_
      refine g_qb_exit ?_
      refine g_qt ?_
      refine g_seq ?_
      refine g_region ?_
      first | refine g_pure (p_loadO (by rfl) rfl (by first | (apply Has.own; (repeat' (first | exact Take.here | apply Take.there)); done) | exact Has.ro (by assumption)) (by rfl)) rfl ?_ | refine g_pure (p_loadN (by rfl) rfl (by first | (apply Has.own; (repeat' (first | exact Take.here | apply Take.there)); done) | exact Has.ro (by assumption)) (by first | rfl | assumption)) rfl ?_
      refine g_pure (p_move rfl) rfl ?_
      refine g_call (Hin := []) (Hr := ?hr8) (R := ?rr8) rfl rfl rfl ?hin8 ?hc8 ?hk8
      case hin8 => repeat' (first | exact Cover.nil | exact Take.here | apply Cover.cons | apply Take.there)
      case hc8 => intro ρ' hρ hR; exact right_ok (cc := cc) (mc := mc) ⟨cnf_FmR hw nd hall (by omega) (Own2.ro (Take.ro (A := Own2 79 3 ca cc ((cnfF S nd qs).map encCl)) (by repeat' (first | exact Take.here | apply Take.there)) hR)), by unfold I64; omega, fun c hc => by (have := cnf_short S nd qs c hc; omega)⟩ (fun _ => cnf_Ok hw nd hall (by omega)) (RSl.of_own (Take.ro (A := OwnSl 4 1 ma ((vals S bs).drop 1).length mc (((vals S bs).drop 1).map encB)) (by repeat' (first | exact Take.here | apply Take.there)) hR)) (by omega)
      rintro _ _ ⟨rfl, rfl⟩
      refine g_pure (p_move rfl) rfl ?_
      refine g_pure (p_eqlbT (by rfl) rfl rfl (by rw [hml, hy])) rfl ?_
      refine g_pure (p_move rfl) rfl ?_
      refine g_yes rfl rfl ?_
      refine g_call (Hin := []) (Hr := ?hr9) (R := ?rr9) rfl rfl rfl ?hin9 ?hc9 ?hk9
      case hin9 => repeat' (first | exact Cover.nil | exact Take.here | apply Cover.cons | apply Take.there)
      case hc9 => intro ρ' hρ hR; exact awake36_ok (hk.mono hρ)
      rintro _ _ ⟨rfl, rfl⟩
      first | refine g_pure (p_pickt rfl rfl) rfl ?_ | refine g_pure (p_pickf rfl rfl) rfl ?_
      refine g_pure (p_assign rfl) rfl ?_
      refine g_nil ?_
      refine g_qt ?_
      refine g_ret ?_
      exact g_post (Ho := []) (rs := [.tmp 6]) rfl (.tmp rfl .nil) rfl .nil
  · refine g_call (Hin := []) (Hr := ?hr10) (R := ?rr10) rfl rfl rfl ?hin10 ?hc10 ?hk10
    case hin10 => repeat' (first | exact Cover.nil | exact Take.here | apply Cover.cons | apply Take.there)
    case hc10 => intro ρ' hρ hR; exact of_no p S hw (Take.ro (A := Gr p S) (by repeat' (first | exact Take.here | apply Take.there)) hR) la lc qs (RSl.of_own (Take.ro (A := OwnSl 59 1 la qs.length lc (qs.map encI)) (by repeat' (first | exact Take.here | apply Take.there)) hR)) (by omega) hI2 hall
    rintro _ _ ⟨rfl, rfl⟩
    refine g_pure (p_move rfl) rfl ?_
    refine g_pure (p_extract rfl rfl) rfl ?_
    refine g_pure (p_extract rfl rfl) rfl ?_
    refine g_eff (e_alloc (by rfl)) rfl (fun _ _ => ?_)
    rintro ⟨b10, rfl, rfl⟩
    first | refine g_eff0 (e_storeO rfl rfl (by rfl) (by rfl) (by rfl) (by repeat' (first | exact Take.here | apply Take.there)) (by rfl)) (fun _ _ => ?_) | refine g_eff0 (e_storeN rfl rfl (by rfl) (by rfl) (by rfl) (by repeat' (first | exact Take.here | apply Take.there)) (by simp)) (fun _ _ => ?_)
    rintro rfl
    refine g_pure (p_assign rfl) rfl ?_
    refine g_nil ?_
    refine g_qt ?_
    refine g_seq ?_
    refine g_seq ?_
    refine g_region ?_
    refine g_pure (p_move rfl) rfl ?_
    refine g_pure (p_neqT rfl rfl (by decide)) rfl ?_
    refine g_nil ?_
    refine g_qt ?_
    refine g_ift rfl ?_
    refine g_seq ?_
    refine g_region ?_
    refine g_call (Hin := []) (Hr := ?hr11) (R := ?rr11) rfl rfl rfl ?hin11 ?hc11 ?hk11
    case hin11 => repeat' (first | exact Cover.nil | exact Take.here | apply Cover.cons | apply Take.there)
    case hc11 => intro ρ' hρ hR; exact awake36_ok (hk.mono hρ)
    rintro _ _ ⟨rfl, rfl⟩
    refine g_pure (p_assign rfl) rfl ?_
    refine g_nil ?_
    refine g_qt ?_
    refine g_ret ?_
    refine g_qt_ret ?_
    exact g_post (Ho := []) (rs := [.tmp 6]) rfl (.tmp rfl .nil) rfl .nil
end Go.Proofs.YtopgbgnmjogeeaaGreatDoor
/- Chapter 36: CnfRoots. Conditions: what the library's variables hold (LibC). -/
namespace Go.Proofs.YtopgbgnmjogeeaaGreatDoor
set_option maxRecDepth 8000
set_option linter.unusedVariables false
set_option linter.unusedSimpArgs false
set_option linter.unusedSectionVars false
open Go Go.Z Go.Z.Aig Go.Z.Tse Go.Z.Sat Go.Z.Txt

theorem setB (Q : List Bool) (v : Nat) (u : Bool) : (Q.map encB).set (0 + (v : Int).toNat * 1) (Value.bool u) = (Q.set v u).map encB := by
  rw [show 0 + (v : Int).toNat * 1 = v by omega, List.map_set]; rfl
theorem getB {Q : List Bool} {v : Nat} (h : v < Q.length) : (Q.map encB)[0 + (v : Int).toNat * 1]? = some (.bool (Q.getD v false)) := by
  rw [show 0 + (v : Int).toNat * 1 = v by omega, List.getElem?_map, List.getElem?_eq_getElem h, List.getD_eq_getElem?_getD, List.getElem?_eq_getElem h]; rfl
theorem need_ok (S : St) (hw : WF S) (rs : List Int) (p : Nat) (g c : Nat) : ∀ (v : Nat), v < S.length → Nd S rs v → ∀ {ρ : Nat → Obj → Prop} (Q : List Bool), Ro ρ (Gr p S) → Q.length = S.length →
    Con Tryz.prog ρ 28 #[.pointer (some ⟨p, 0, none⟩), .int .i64 v, .slice (some ⟨g, 0, none⟩) S.length c] [Blk g (.cells (Q.map encB).toArray 4 (0, 0))]
      (fun r H => r = .tuple #[] ∧ ∃ Q' : List Bool, Q'.length = S.length ∧ (∀ u, isM Q' u → isM Q u ∨ Nd S rs u) ∧ H = [Blk g (.cells (Q'.map encB).toArray 4 (0, 0))]) := by
  have hlim := hw.lim
  intro v
  induction v using Nat.strongRecOn with
  | ind v ih =>
    intro hvl hn ρ Q hg hQ
    have hQv := getB (Q := Q) (v := v) (by omega)
    obtain ⟨x, y, d, hgt⟩ : ∃ x y d, gate1 S (v : Int) = (x, y, d) := ⟨_, _, _, rfl⟩
    have hmk : ∀ u, isM (Q.set v true) u → isM Q u ∨ Nd S rs u := fun u hu => by
      rcases (isM_set (by omega)).1 hu with rfl | hu
      · exact .inr hn
      · exact .inl hu
    have hQ2 : (Q.set v true).length = S.length := by rw [List.length_set]; exact hQ
    refine con_intro Tryz.func28 Tryz.call28 rfl Tryz.ntmps28 rfl (L := [(0, _), (1, _), (2, _)]) rfl fun w hh => ?_
    refine g_seq ?_
    refine g_seq ?_
    refine g_region ?_
    refine g_pure (p_move rfl) rfl ?_
    refine g_pure (p_lss rfl rfl) rfl ?_
    refine g_pure (p_move rfl) rfl ?_
    refine g_splitd rfl rfl (fun h1 => ?_) (fun h1 => ?_)
    · exfalso; omega
    · refine g_yes rfl rfl ?_
      refine g_pure (p_move rfl) rfl ?_
      refine g_yes rfl rfl ?_
      refine g_pure (p_move rfl) rfl ?_
      refine g_yes rfl rfl ?_
      refine g_pure (p_len (by rfl) rfl) rfl ?_
      refine g_yes rfl rfl ?_
      refine g_pure (p_geq rfl rfl) rfl ?_
      first | refine g_pure (p_pickt rfl rfl) rfl ?_ | refine g_pure (p_pickf rfl rfl) rfl ?_
      refine g_pure (p_move rfl) rfl ?_
      refine g_splitd rfl rfl (fun h2 => ?_) (fun h2 => ?_)
      · exfalso; omega
      · refine g_yes rfl rfl ?_
        refine g_pure (p_move rfl) rfl ?_
        refine g_yes rfl rfl ?_
        refine g_pure (p_move rfl) rfl ?_
        refine g_yes rfl rfl ?_
        refine g_pure (p_indexAddr rfl rfl (by omega) (fun _ => rfl)) rfl ?_
        refine g_yes rfl rfl ?_
        refine g_pure (p_load (by rfl) rfl (Has.own (by repeat' (first | exact Take.here | apply Take.there))) hQv) rfl ?_
        first | refine g_pure (p_pickt rfl rfl) rfl ?_ | refine g_pure (p_pickf rfl rfl) rfl ?_
        refine g_nil ?_
        refine g_qt ?_
        refine g_if rfl (fun h3 => ?_) (fun h3 => ?_)
        · refine g_ret ?_
          refine g_qt_ret ?_
          exact g_post (rs := []) rfl .nil ⟨rfl, Q, hQ, fun u h => .inl h, rfl⟩ (by repeat' (first | exact Cover.nil | exact Take.here | apply Cover.cons | apply Take.there))
        · refine g_skip ?_
          refine g_qt ?_
          refine g_seq ?_
          refine g_region ?_
          refine g_pure (p_move rfl) rfl ?_
          refine g_pure (p_move rfl) rfl ?_
          refine g_pure (p_indexAddr rfl rfl (by omega) (fun _ => rfl)) rfl ?_
          refine g_eff0 (e_store1 (by rfl) rfl rfl rfl (by repeat' (first | exact Take.here | apply Take.there)) (by show 0 + (v : Int).toNat * 1 < _; rw [List.length_map]; omega)) (fun _ _ => ?_)
          rintro rfl
          refine g_nil ?_
          refine g_qt ?_
          refine g_seq ?_
          refine g_region ?_
          refine g_pure (p_move rfl) rfl ?_
          refine g_pure (p_move rfl) rfl ?_
          refine g_call (Hin := []) (Hr := ?hr1) (R := ?rr1) rfl rfl rfl ?hin1 ?hc1 ?hk1
          case hin1 => repeat' (first | exact Cover.nil | exact Take.here | apply Cover.cons | apply Take.there)
          case hc1 => intro ρ' hρ hR; exact gate_r hgt (by unfold I64; omega) (hg.mono hρ)
          rintro _ _ ⟨rfl, rfl⟩
          refine g_pure (p_move rfl) rfl ?_
          refine g_pure (p_extract rfl rfl) rfl ?_
          refine g_pure (p_extract rfl rfl) rfl ?_
          refine g_pure (p_extract rfl rfl) rfl ?_
          refine g_pure (p_assign rfl) rfl ?_
          refine g_pure (p_assign rfl) rfl ?_
          refine g_pure (p_assign rfl) rfl ?_
          refine g_nil ?_
          refine g_qt ?_
          refine g_seq ?_
          refine g_region ?_
          refine g_pure (p_move rfl) rfl ?_
          refine g_nil ?_
          refine g_qt ?_
          rw [setB]
          refine g_if rfl (fun h4 => ?_) (fun h4 => ?_)
          · subst h4
            obtain ⟨k1, k2⟩ := gate1_yes hgt
            obtain ⟨k3, k4, k5⟩ := hw.gate v x y k1 k2
            obtain ⟨ux, hux⟩ : ∃ u : Nat, x / 2 = u := ⟨(x / 2).toNat, by omega⟩
            obtain ⟨uy, huy⟩ : ∃ u : Nat, y / 2 = u := ⟨(y / 2).toNat, by omega⟩
            have hnx : Nd S rs ux := by have := Nd.a hn k1 k2; rwa [hux, Int.toNat_natCast] at this
            have hny : Nd S rs uy := by have := Nd.b hn k1 k2; rwa [huy, Int.toNat_natCast] at this
            refine g_seq ?_
            refine g_region ?_
            refine g_pure (p_move rfl) rfl ?_
            refine g_pure (p_move rfl) rfl ?_
            first | refine g_pure (p_quon rfl rfl (by omega) (by omega)) rfl ?_ | refine g_pure (p_quoi rfl rfl (by omega) (by omega)) rfl ?_ | refine g_pure (p_quo rfl rfl (by omega)) rfl ?_
            refine g_pure (p_move rfl) rfl ?_
            rw [hux]
            refine g_call (Hin := ?hi2) (Hr := ?hr2) (R := ?rr2) rfl rfl rfl ?hin2 ?hc2 ?hk2
            case hc2 => intro ρ' hρ hR; exact ih ux (by omega) (by omega) hnx (Q.set v true) (hg.mono hρ) hQ2
            case hin2 => repeat' (first | exact Cover.nil | exact Take.here | apply Cover.cons | apply Take.there)
            rintro _ _ ⟨rfl, Q1, hQ1, hs1, rfl⟩
            refine g_nil ?_
            refine g_qt ?_
            refine g_region ?_
            refine g_pure (p_move rfl) rfl ?_
            refine g_pure (p_move rfl) rfl ?_
            first | refine g_pure (p_quon rfl rfl (by omega) (by omega)) rfl ?_ | refine g_pure (p_quoi rfl rfl (by omega) (by omega)) rfl ?_ | refine g_pure (p_quo rfl rfl (by omega)) rfl ?_
            refine g_pure (p_move rfl) rfl ?_
            rw [huy]
            refine g_call (Hin := ?hi3) (Hr := ?hr3) (R := ?rr3) rfl rfl rfl ?hin3 ?hc3 ?hk3
            case hc3 => intro ρ' hρ hR; exact ih uy (by omega) (by omega) hny Q1 (hg.mono hρ) hQ1
            case hin3 => repeat' (first | exact Cover.nil | exact Take.here | apply Cover.cons | apply Take.there)
            rintro _ _ ⟨rfl, Q3, hQ3, hs3, rfl⟩
            refine g_nil ?_
            exact g_postn (rs := []) rfl .nil ⟨rfl, Q3, hQ3, fun u h => (hs3 u h).elim (fun h => (hs1 u h).elim (hmk u) .inr) .inr, rfl⟩ (by repeat' (first | exact Cover.nil | exact Take.here | apply Cover.cons | apply Take.there))
          · refine g_skip ?_
            exact g_postn (rs := []) rfl .nil ⟨rfl, Q.set v true, hQ2, hmk, rfl⟩ (by repeat' (first | exact Cover.nil | exact Take.here | apply Cover.cons | apply Take.there))

theorem croots_ok {ρ : Nat → Obj → Prop} (hk : LibC ρ) (a : Option Addr) (c : Nat) (l : List Ac) (hl : RSl ρ 4 a l.length (l.flatMap encA)) (hlen : l.length ≤ 9223372036854775807) (hx : ∀ x ∈ l, x.ok) (ia : Option Addr) (ic : Nat) (inp : List Bool) (hin : RSl ρ 1 ia inp.length (inp.map encB)) (hil : inp.length ≤ 9223372036854775807) (ra : Option Addr) (rc : Nat) (rs : List Int) (hr : RSl ρ 1 ra rs.length (rs.map encI)) (hrm : rs.length ≤ 9223372036854775807) (hI : ∀ r ∈ rs, I64 r) (fl : Int) (hfl : 0 ≤ fl ∧ fl ≤ 255) :
    Con Tryz.prog ρ 7 #[.slice a l.length c, .slice ia inp.length ic, .slice ra rs.length rc, .int .u8 fl] [] (fun v _ => v = .bool true) := by
  have hSl := afterA_le (l.take 60)
  have hTl : (l.take 60).length ≤ 60 := by rw [List.length_take]; omega
  have hI2 : ∀ r ∈ rs.take 20, I64 r := fun r h => hI r (List.mem_of_mem_take h)
  have hql : (rs.take 20).length ≤ 20 := by rw [List.length_take]; omega
  have eML : maxLen = 9223372036854775807 := rfl
  refine con_intro Tryz.func7 Tryz.call7 rfl Tryz.ntmps7 rfl (L := [(0, _), (1, _), (2, _), (3, _)]) rfl fun w hh => ?_
  refine g_seq ?_
  refine g_region ?_
  refine g_pure (p_assign rfl) rfl ?_
  refine g_nil ?_
  refine g_qt ?_
  refine g_seq ?_
  refine g_region ?_
  refine g_pure (p_move rfl) rfl ?_
  refine g_call (Hin := []) (Hr := ?hr4) (R := ?rr4) rfl rfl rfl ?hin4 ?hc4 ?hk4
  case hin4 => repeat' (first | exact Cover.nil | exact Take.here | apply Cover.cons | apply Take.there)
  case hc4 => intro ρ' hρ hR; exact built36_ok a c l (hl.mono hρ) hlen hx
  rintro _ _ ⟨p, rfl, rfl⟩
  generalize afterA (l.take 60) = S at hSl
  refine gr_wf (p := p) (S := S) (by repeat' (first | exact Take.here | apply Take.there)) fun hw => ?_
  have hpos := hw.pos
  have hlim := hw.lim
  have hinl := ins_le S 0
  refine g_pure (p_move rfl) rfl ?_
  refine g_pure (p_extract rfl rfl) rfl ?_
  refine g_pure (p_extract rfl rfl) rfl ?_
  refine g_pure (p_assign rfl) rfl ?_
  refine g_pure (p_assign rfl) rfl ?_
  refine g_nil ?_
  refine g_qt ?_
  refine g_seq ?_
  refine g_seq ?_
  refine g_region ?_
  refine g_pure (p_move rfl) rfl ?_
  refine g_pure (p_eqnil (by rfl) rfl rfl) rfl ?_
  refine g_nil ?_
  refine g_qt ?_
  refine g_iff rfl ?_
  refine g_skip ?_
  refine g_qt ?_
  refine g_seq ?_
  refine g_region ?_
  refine g_pure (p_move rfl) rfl ?_
  refine g_call (Hin := []) (Hr := ?hr5) (R := ?rr5) rfl rfl rfl ?hin5 ?hc5 ?hk5
  case hin5 => repeat' (first | exact Cover.nil | exact Take.here | apply Cover.cons | apply Take.there)
  case hc5 => intro ρ' hρ hR; exact lits36_ok ra rc rs (hr.mono hρ) hrm
  rintro _ _ ⟨la, lc, rfl, rfl⟩
  generalize rs.take 20 = qs at hI2 hql
  refine g_pure (p_assign rfl) rfl ?_
  refine g_nil ?_
  refine g_qt ?_
  refine g_seq ?_
  refine g_region ?_
  refine g_pure (p_move rfl) rfl ?_
  refine g_pure (p_move rfl) rfl ?_
  have hbl := bitsF_len inp (ins 0 S).length
  obtain ⟨bs, hbsd⟩ : ∃ bs, bitsF inp (ins 0 S).length = bs := ⟨_, rfl⟩
  rw [hbsd] at hbl
  have hvl : ((vals S bs).drop 1).length = S.length - 1 := by rw [List.length_drop, vals_len hw]
  by_cases hall : ∀ r ∈ qs, has S r
  · refine g_call (Hin := []) (Hr := ?hr6) (R := ?rr6) rfl rfl rfl ?hin6 ?hc6 ?hk6
    case hin6 => repeat' (first | exact Cover.nil | exact Take.here | apply Cover.cons | apply Take.there)
    case hc6 => intro ρ' hρ hR; exact of_ok p S hw (Take.ro (A := Gr p S) (by repeat' (first | exact Take.here | apply Take.there)) hR) la lc qs (RSl.of_own (Take.ro (A := OwnSl 59 1 la qs.length lc (qs.map encI)) (by repeat' (first | exact Take.here | apply Take.there)) hR)) (by omega) hall
    rintro _ _ ⟨ca, cc, nd, hnd, rfl, rfl⟩
    have hcl := cnf_len S nd qs
    refine g_pure (p_move rfl) rfl ?_
    refine g_pure (p_extract rfl rfl) rfl ?_
    refine g_pure (p_extract rfl rfl) rfl ?_
    refine g_eff (e_alloc (by rfl)) rfl (fun _ _ => ?_)
    rintro ⟨b12, rfl, rfl⟩
    first | refine g_eff0 (e_storeO rfl rfl (by rfl) (by rfl) (by rfl) (by repeat' (first | exact Take.here | apply Take.there)) (by rfl)) (fun _ _ => ?_) | refine g_eff0 (e_storeN rfl rfl (by rfl) (by rfl) (by rfl) (by repeat' (first | exact Take.here | apply Take.there)) (by simp)) (fun _ _ => ?_)
    rintro rfl
    refine g_pure (p_assign rfl) rfl ?_
    refine g_nil ?_
    refine g_qt ?_
    refine g_seq ?_
    refine g_region ?_
    refine g_pure (p_move rfl) rfl ?_
    refine g_pure (p_move rfl) rfl ?_
    refine g_pure (p_move rfl) rfl ?_
    refine g_call (Hin := []) (Hr := ?hr7) (R := ?rr7) rfl rfl rfl ?hin7 ?hc7 ?hk7
    case hin7 => repeat' (first | exact Cover.nil | exact Take.here | apply Cover.cons | apply Take.there)
    case hc7 => intro ρ' hρ hR; exact (bits36_ok ia ic inp (hin.mono hρ) hil (ins 0 S).length (by omega)).mono (R' := fun v H => ∃ a c, v = .slice a bs.length c ∧ H = [OwnSl 4 1 a bs.length c (bs.map encB)]) (fun v H ⟨a0, c0, h1, h2⟩ => ⟨a0, c0, by rw [hbl]; exact h1, by rw [hbl, ← hbsd]; exact h2⟩)
    rintro _ _ ⟨ba, bc, rfl, rfl⟩
    refine g_call (Hin := []) (Hr := ?hr8) (R := ?rr8) rfl rfl rfl ?hin8 ?hc8 ?hk8
    case hin8 => repeat' (first | exact Cover.nil | exact Take.here | apply Cover.cons | apply Take.there)
    case hc8 => intro ρ' hρ hR; exact all36_ok p S hw (Take.ro (A := Gr p S) (by repeat' (first | exact Take.here | apply Take.there)) hR) ba bc bs (RSl.of_own (Take.ro (A := OwnSl 4 1 ba bs.length bc (bs.map encB)) (by repeat' (first | exact Take.here | apply Take.there)) hR)) hbl
    rintro _ _ ⟨ma, mc, rfl, rfl⟩
    generalize (vals S bs).drop 1 = M at hvl
    refine g_pure (p_move rfl) rfl ?_
    refine g_pure (p_extract rfl rfl) rfl ?_
    refine g_pure (p_extract rfl rfl) rfl ?_
    refine g_pure (p_assign rfl) rfl ?_
    refine g_pure (p_assign rfl) rfl ?_
    refine g_nil ?_
    refine g_qt ?_
    refine g_seq ?_
    refine g_seq ?_
    refine g_region ?_
    refine g_pure (p_move rfl) rfl ?_
    refine g_pure (p_neqF rfl rfl rfl) rfl ?_
    refine g_pure (p_move rfl) rfl ?_
    refine g_yes rfl rfl ?_
    refine g_pure (p_move rfl) rfl ?_
    refine g_yes rfl rfl ?_
    refine g_pure (p_not rfl) rfl ?_
    first | refine g_pure (p_pickt rfl rfl) rfl ?_ | refine g_pure (p_pickf rfl rfl) rfl ?_
    refine g_pure (p_move rfl) rfl ?_
    refine g_yes rfl rfl ?_
    refine g_pure (p_move rfl) rfl ?_
    refine g_yes rfl rfl ?_
    refine g_pure (p_len (by rfl) rfl) rfl ?_
    refine g_yes rfl rfl ?_
    refine g_pure (p_eql rfl rfl) rfl ?_
    first | refine g_pure (p_pickt rfl rfl) rfl ?_ | refine g_pure (p_pickf rfl rfl) rfl ?_
    refine g_nil ?_
    refine g_qt ?_
    refine g_ifd rfl (fun e0 => ?_) (fun e0 => ?_)
    · refine g_seq ?_
      refine g_region ?_
      refine g_pure (p_move rfl) rfl ?_
      refine g_pure (p_neqF rfl rfl rfl) rfl ?_
      refine g_pure (p_move rfl) rfl ?_
      refine g_no rfl rfl rfl rfl ?_
      first | refine g_pure (p_pickt rfl rfl) rfl ?_ | refine g_pure (p_pickf rfl rfl) rfl ?_
      refine g_pure (p_move rfl) rfl ?_
      refine g_yes rfl rfl ?_
      refine g_pure (p_move rfl) rfl ?_
      refine g_yes rfl rfl ?_
      refine g_pure (p_move rfl) rfl ?_
      refine g_yes rfl rfl ?_
      refine g_call (Hin := []) (Hr := ?hr9) (R := ?rr9) rfl rfl rfl ?hin9 ?hc9 ?hk9
      case hin9 => repeat' (first | exact Cover.nil | exact Take.here | apply Cover.cons | apply Take.there)
      case hc9 => intro ρ' hρ hR; exact awake36_ok (hk.mono hρ)
      rintro _ _ ⟨rfl, rfl⟩
      refine g_yes rfl rfl ?_
      first | refine g_pure (p_pickt rfl rfl) rfl ?_ | refine g_pure (p_pickf rfl rfl) rfl ?_
      first | refine g_pure (p_pickt rfl rfl) rfl ?_ | refine g_pure (p_pickf rfl rfl) rfl ?_
      refine g_pure (p_assign rfl) rfl ?_
      refine g_nil ?_
      refine g_qt ?_
      refine g_ret ?_
      refine g_qt_ret ?_
      exact g_post (Ho := []) (rs := [.tmp 8]) rfl (.tmp rfl .nil) rfl .nil
    · have hMl : 0 < M.length := by omega
      obtain ⟨f, hf⟩ : ∃ f : Nat, fl % (M.length : Int) = f := ⟨(fl % (M.length : Int)).toNat, by have := Int.emod_nonneg fl (b := (M.length : Int)) (by omega); omega⟩
      have hfM : f < M.length := by have := Int.emod_lt_of_pos fl (b := (M.length : Int)) (by omega); omega
      refine g_own (e := 4) (a1 := ma) (k := M.length) (cap := mc) (xs := M.map encB) (by repeat' (first | exact Take.here | apply Take.there)) (fun _ h _ _ => absurd h (by omega)) (fun gm cur r1 r2 r3 r4 r5 r6 => ?_)
      subst r1
      obtain ⟨u, hu⟩ : ∃ u, M.getD f false = u := ⟨_, rfl⟩
      have hcf : cur[0 + (f : Int).toNat * 1]? = some (.bool u) := own_at (k := f) r5 (by simp) (by rw [List.getElem?_map, List.getElem?_eq_getElem hfM, ← hu, List.getD_eq_getElem?_getD, List.getElem?_eq_getElem hfM]; rfl)
      have hset : (cur.set (0 + (f : Int).toNat * 1) (Value.bool !u)).take (M.length * 1) = (M.set f !u).map encB := by
        rw [← setB, ← r5, List.take_set]
      have hXl : (M.set f !u).length = M.length := List.length_set ..
      refine g_skip ?_
      refine g_qt ?_
      refine g_seq ?_
      refine g_region ?_
      refine g_pure (p_move rfl) rfl ?_
      refine g_pure (p_convi (by rfl) rfl (by omega)) rfl ?_
      refine g_pure (p_move rfl) rfl ?_
      refine g_pure (p_len (by rfl) rfl) rfl ?_
      refine g_pure (p_remn rfl rfl (by omega) (by omega)) rfl ?_
      refine g_pure (p_assign rfl) rfl ?_
      refine g_nil ?_
      refine g_qt ?_
      refine g_seq ?_
      rw [hf]
      refine g_region ?_
      refine g_pure (p_move rfl) rfl ?_
      refine g_pure (p_move rfl) rfl ?_
      refine g_pure (p_move rfl) rfl ?_
      refine g_pure (p_move rfl) rfl ?_
      refine g_pure (p_indexAddr rfl rfl (by omega) (fun _ => rfl)) rfl ?_
      refine g_pure (p_load (by rfl) rfl (Has.own (by repeat' (first | exact Take.here | apply Take.there))) hcf) rfl ?_
      refine g_pure (p_not rfl) rfl ?_
      refine g_pure (p_indexAddr rfl rfl (by omega) (fun _ => rfl)) rfl ?_
      refine g_eff0 (e_store1 (by rfl) rfl rfl rfl (by repeat' (first | exact Take.here | apply Take.there)) (by show 0 + (f : Int).toNat * 1 < _; omega)) (fun _ _ => ?_)
      rintro rfl
      refine g_nil ?_
      refine g_qt ?_
      refine g_seq ?_
      refine g_seq ?_
      refine g_region ?_
      first | refine g_pure (p_loadO (by rfl) rfl (by first | (apply Has.own; (repeat' (first | exact Take.here | apply Take.there)); done) | exact Has.ro (by assumption)) (by rfl)) rfl ?_ | refine g_pure (p_loadN (by rfl) rfl (by first | (apply Has.own; (repeat' (first | exact Take.here | apply Take.there)); done) | exact Has.ro (by assumption)) (by first | rfl | assumption)) rfl ?_
      refine g_pure (p_move rfl) rfl ?_
      generalize M.set f (!u) = X at hset hXl
      refine g_fold (k := M.length) (cap := mc) (size := 1) (g := gm) (xs := X.map encB) (by repeat' (first | exact Take.here | apply Take.there)) r2 r3 (by rw [List.length_set]; exact r4) hset ?_
      rw [← hXl] at hMl hvl hfM r2 ⊢
      clear hset hcf r5 r4 r6 hf hfM
      refine g_call (Hin := []) (Hr := ?hr10) (R := ?rr10) rfl rfl rfl ?hin10 ?hc10 ?hk10
      case hin10 => repeat' (first | exact Cover.nil | exact Take.here | apply Cover.cons | apply Take.there)
      case hc10 => intro ρ' hρ hR; exact right_ok (cc := cc) (mc := mc) ⟨cnf_FmR hw nd hall (by omega) (Own2.ro (Take.ro (A := Own2 79 3 ca cc ((cnfF S nd qs).map encCl)) (by repeat' (first | exact Take.here | apply Take.there)) hR)), by unfold I64; omega, fun c hc => by (have := cnf_short S nd qs c hc; omega)⟩ (fun _ => cnf_Ok hw nd hall (by omega)) (RSl.of_own (Take.ro (A := OwnSl 4 1 (some ⟨gm, 0, none⟩) X.length mc (X.map encB)) (by repeat' (first | exact Take.here | apply Take.there)) hR)) (by omega)
      rintro _ _ ⟨rfl, rfl⟩
      cases hR : rightB ((S.length : Int) - 1) (cnfF S nd qs) X with
      | false =>
        refine g_pure (p_not rfl) rfl ?_
        refine g_nil ?_
        refine g_qt ?_
        refine g_ift rfl ?_
        refine g_seq ?_
        refine g_region ?_
        refine g_call (Hin := []) (Hr := ?hr11) (R := ?rr11) rfl rfl rfl ?hin11 ?hc11 ?hk11
        case hin11 => repeat' (first | exact Cover.nil | exact Take.here | apply Cover.cons | apply Take.there)
        case hc11 => intro ρ' hρ hR; exact awake36_ok (hk.mono hρ)
        rintro _ _ ⟨rfl, rfl⟩
        refine g_pure (p_assign rfl) rfl ?_
        refine g_nil ?_
        refine g_qt ?_
        refine g_ret ?_
        refine g_qt_ret ?_
        exact g_post (Ho := []) (rs := [.tmp 8]) rfl (.tmp rfl .nil) rfl .nil
      | true =>
        have hlaw := fun (v : Nat) => roots_law hw hnd hall (xs := X) hvl hR (v := v)
        refine g_pure (p_not rfl) rfl ?_
        refine g_nil ?_
        refine g_qt ?_
        refine g_iff rfl ?_
        refine g_skip ?_
        refine g_qt ?_
        refine g_seq ?_
        refine g_region ?_
        refine g_pure (p_assign rfl) rfl ?_
        refine g_nil ?_
        refine g_qt ?_
        refine g_seq ?_
        refine g_region ?_
        refine g_pure (p_move rfl) rfl ?_
        refine g_call (Hin := []) (Hr := ?hr12) (R := ?rr12) rfl rfl rfl ?hin12 ?hc12 ?hk12
        case hin12 => repeat' (first | exact Cover.nil | exact Take.here | apply Cover.cons | apply Take.there)
        case hc12 => intro ρ' hρ hR; exact inputs_ok p S (Take.ro (A := Gr p S) (by repeat' (first | exact Take.here | apply Take.there)) hR)
        rintro _ _ ⟨na, nc, rfl, rfl⟩
        refine g_pure (p_assign rfl) rfl ?_
        refine g_nil ?_
        refine g_qt ?_
        refine g_seq ?_
        refine g_seq ?_
        refine g_region ?_
        refine g_pure (p_assign rfl) rfl ?_
        refine g_nil ?_
        refine g_qt ?_
        refine g_block ?_
        refine g_ownnil (e := 4) (size := 1) ?_
        have hInl : (insM S X).length = (ins 0 S).length := List.length_map _
        refine g_loop (fun q : Nat × Option Addr × Nat => [(9, .pointer (some ⟨p, 0, none⟩)), (11, .slice la qs.length lc), (14, .slice (some ⟨gm, 0, none⟩) X.length mc), (17, .slice q.2.1 q.1 q.2.2), (18, .slice na (ins 0 S).length nc), (19, .int .i64 q.1)])
          (fun q => [Gr p S, OwnSl 59 1 la qs.length lc (qs.map encI), OwnSl 4 1 (some ⟨gm, 0, none⟩) X.length mc (X.map encB), OwnSl 59 1 na (ins 0 S).length nc ((ins 0 S).map encI), OwnSl 4 1 q.2.1 q.1 q.2.2 (((insM S X).take q.1).map encB)])
          (fun q => q.1 ≤ (ins 0 S).length) (fun q => (ins 0 S).length - q.1) (0, none, 0) (Nat.zero_le _) (by (repeat (first | exact trivial | refine ⟨by rfl, ?_⟩)); done) (by repeat' (first | exact Cover.nil | exact Take.here | apply Cover.cons | apply Take.there)) ?_
        rintro ⟨i, fa, fc⟩ hi
        dsimp only at hi ⊢
        refine g_seq ?_
        refine g_seq ?_
        refine g_region ?_
        refine g_pure (p_move rfl) rfl ?_
        refine g_pure (p_move rfl) rfl ?_
        refine g_pure (p_len (by rfl) rfl) rfl ?_
        refine g_pure (p_lss rfl rfl) rfl ?_
        refine g_nil ?_
        refine g_qt ?_
        refine g_ifd rfl (fun q => ?_) (fun q => ?_)
        · have hin2 : i < (ins 0 S).length := by omega
          obtain ⟨z, hz⟩ : ∃ z, (ins 0 S)[i]? = some z := ⟨_, List.getElem?_eq_getElem hin2⟩
          obtain ⟨j, xa, xb, hj1, hj2, _⟩ := ins_of S 0 i z hz
          have hj2 : z = 2 * (j : Int) := by simpa using hj2
          have hjl := (List.getElem?_eq_some_iff.1 hj1).1
          have hj0 : 0 < j := by
            rcases Nat.eq_zero_or_pos j with e | e
            · subst e
              have := hw.hd
              rw [List.head?_eq_getElem?, hj1] at this
              simp at this
            · exact e
          refine g_own (e := 59) (a1 := na) (k := (ins 0 S).length) (cap := nc) (xs := (ins 0 S).map encI) (by repeat' (first | exact Take.here | apply Take.there)) (fun _ h _ _ => absurd h (by omega)) (fun gn cn t1 t2 t3 t4 t5 t6 => ?_)
          subst t1
          refine g_own (e := 4) (a1 := some ⟨gm, 0, none⟩) (k := X.length) (cap := mc) (xs := X.map encB) (by repeat' (first | exact Take.here | apply Take.there)) (fun _ h _ _ => absurd h (by omega)) (fun gx cx v1 v2 v3 v4 v5 v6 => ?_)
          cases v1
          have hz1 : cn[0 + (i : Int).toNat * 1]? = some (.int .i64 z) := own_at (k := i) t5 (by simp) (by rw [List.getElem?_map, hz]; rfl)
          have hXj : cx[0 + ((j : Int) - 1).toNat * 1]? = some (.bool (X.getD (j - 1) false)) := own_at (k := j - 1) v5 (by omega) (by rw [List.getElem?_map, List.getElem?_eq_getElem (by omega), List.getD_eq_getElem?_getD, List.getElem?_eq_getElem (by omega)]; rfl)
          have hzj : z / 2 = j := by omega
          have e3 : ((insM S X).take i).map encB ++ [.bool (X.getD (j - 1) false)] = ((insM S X).take (i + 1)).map encB := by
            have h1 : (insM S X)[i]? = some (X.getD (j - 1) false) := by
              unfold insM
              rw [List.getElem?_map, hz, Option.map_some, hzj, Int.toNat_natCast]
            rw [List.take_add_one, h1, List.map_append]; rfl
          refine g_skip ?_
          refine g_qt ?_
          refine g_seq ?_
          refine g_block ?_
          refine g_seq ?_
          refine g_region ?_
          refine g_pure (p_move rfl) rfl ?_
          refine g_pure (p_move rfl) rfl ?_
          refine g_pure (p_indexAddr rfl rfl (by omega) (fun _ => rfl)) rfl ?_
          refine g_pure (p_load (by rfl) rfl (Has.own (by repeat' (first | exact Take.here | apply Take.there))) hz1) rfl ?_
          first | refine g_pure (p_quon rfl rfl (by omega) (by omega)) rfl ?_ | refine g_pure (p_quoi rfl rfl (by omega) (by omega)) rfl ?_ | refine g_pure (p_quo rfl rfl (by omega)) rfl ?_
          refine g_pure (p_assign rfl) rfl ?_
          refine g_nil ?_
          refine g_qt ?_
          refine g_seq ?_
          refine g_seq ?_
          rw [hzj]
          refine g_region ?_
          refine g_pure (p_move rfl) rfl ?_
          refine g_pure (p_lss rfl rfl) rfl ?_
          refine g_pure (p_move rfl) rfl ?_
          refine g_splitd rfl rfl (fun w1 => ?_) (fun w1 => ?_)
          · exfalso; omega
          · refine g_yes rfl rfl ?_
            refine g_pure (p_move rfl) rfl ?_
            refine g_yes rfl rfl ?_
            refine g_pure (p_move rfl) rfl ?_
            refine g_yes rfl rfl ?_
            refine g_pure (p_len (by rfl) rfl) rfl ?_
            refine g_yes rfl rfl ?_
            refine g_pure (p_gtr rfl rfl) rfl ?_
            first | refine g_pure (p_pickt rfl rfl) rfl ?_ | refine g_pure (p_pickf rfl rfl) rfl ?_
            refine g_nil ?_
            refine g_qt ?_
            refine g_ifd rfl (fun w2 => ?_) (fun w2 => ?_)
            · exfalso; omega
            · refine g_skip ?_
              refine g_qt ?_
              refine g_region ?_
              refine g_pure (p_move rfl) rfl ?_
              refine g_pure (p_move rfl) rfl ?_
              refine g_pure (p_move rfl) rfl ?_
              first | refine g_pure (p_subi rfl rfl (by omega)) rfl ?_ | refine g_pure (p_sub rfl rfl) rfl ?_
              refine g_pure (p_indexAddr rfl rfl (by omega) (fun _ => rfl)) rfl ?_
              refine g_pure (p_load (by rfl) rfl (Has.own (by repeat' (first | exact Take.here | apply Take.there))) hXj) rfl ?_
              refine g_eff (e_bs (xs := [.tmp 115]) rfl rfl rfl (by rfl) (by rfl) rfl (by rfl)) rfl (fun _ _ => ?_)
              rintro ⟨b116, rfl, rfl⟩
              refine g_eff (e_appendO (by rfl) (by rfl) rfl rfl (by first | (apply Has.own; (repeat' (first | exact Take.here | apply Take.there)); done) | exact Has.ro (by assumption)) (by rfl) (by rfl) (by repeat' (first | exact Take.here | apply Take.there)) (by omega) (by first | omega | (dsimp only; omega) | (simp <;> omega)) (by omega)) rfl (fun _ _ => ?_)
              rintro ⟨a117, c117, rfl, rfl⟩
              refine g_pure (p_assign rfl) rfl ?_
              refine g_nil ?_
              refine g_qb ?_
              refine g_qt ?_
              refine g_region ?_
              refine g_pure (p_move rfl) rfl ?_
              first | refine g_pure (p_addi rfl rfl (by omega)) rfl ?_ | refine g_pure (p_add rfl rfl) rfl ?_
              refine g_pure (p_assign rfl) rfl ?_
              refine g_nil ?_
              refine g_qn ?_
              rw [e3]
              refine g_fold (k := (ins 0 S).length) (cap := nc) (size := 1) (g := gn) (xs := (ins 0 S).map encI) (by repeat' (first | exact Take.here | apply Take.there)) t2 t3 t4 t5 ?_
              refine g_fold (k := X.length) (cap := mc) (size := 1) (g := gm) (xs := X.map encB) (by repeat' (first | exact Take.here | apply Take.there)) v2 v3 v4 v5 ?_
              exact g_next (i + 1, a117, c117) (by (repeat (first | exact trivial | refine ⟨by rfl, ?_⟩)); done) (by repeat' (first | exact Cover.nil | exact Take.here | apply Cover.cons | apply Take.there)) (by dsimp only; omega) (by dsimp only; omega)
        · have hie : i = (insM S X).length := by omega
          rw [hie, List.take_length]
          have hvl2 : ((vals S (insM S X)).drop 1).length = S.length - 1 := by rw [List.length_drop, vals_len hw]
          refine g_exit ?_
          refine g_qt_exit ?_
          refine g_qn_exit ?_
          refine g_qb_exit ?_
          refine g_qt ?_
          refine g_seq ?_
          refine g_region ?_
          refine g_pure (p_move rfl) rfl ?_
          refine g_pure (p_move rfl) rfl ?_
          refine g_call (Hin := []) (Hr := ?hr13) (R := ?rr13) rfl rfl rfl ?hin13 ?hc13 ?hk13
          case hin13 => repeat' (first | exact Cover.nil | exact Take.here | apply Cover.cons | apply Take.there)
          case hc13 => intro ρ' hρ hR; exact all36_ok p S hw (Take.ro (A := Gr p S) (by repeat' (first | exact Take.here | apply Take.there)) hR) fa fc (insM S X) (RSl.of_own (Take.ro (A := OwnSl 4 1 fa (insM S X).length fc ((insM S X).map encB)) (by repeat' (first | exact Take.here | apply Take.there)) hR)) hInl
          rintro _ _ ⟨ga, gc, rfl, rfl⟩
          have hYv : ∀ v : Nat, 0 < v → ((vals S (insM S X)).drop 1).getD (v - 1) false = (vals S (insM S X)).getD v false := fun v h => by
            rw [List.getD_eq_getElem?_getD, List.getElem?_drop, show 1 + (v - 1) = v by omega, ← List.getD_eq_getElem?_getD]
          obtain ⟨Y, hY⟩ : ∃ Y, (vals S (insM S X)).drop 1 = Y := ⟨_, rfl⟩
          rw [hY] at hvl2 hYv ⊢
          refine g_pure (p_move rfl) rfl ?_
          refine g_pure (p_extract rfl rfl) rfl ?_
          refine g_pure (p_extract rfl rfl) rfl ?_
          refine g_pure (p_assign rfl) rfl ?_
          refine g_pure (p_assign rfl) rfl ?_
          refine g_nil ?_
          refine g_qt ?_
          refine g_seq ?_
          refine g_seq ?_
          refine g_region ?_
          refine g_pure (p_move rfl) rfl ?_
          refine g_pure (p_not rfl) rfl ?_
          refine g_pure (p_move rfl) rfl ?_
          refine g_yes rfl rfl ?_
          refine g_pure (p_move rfl) rfl ?_
          refine g_yes rfl rfl ?_
          refine g_pure (p_len (by rfl) rfl) rfl ?_
          refine g_yes rfl rfl ?_
          refine g_pure (p_move rfl) rfl ?_
          refine g_yes rfl rfl ?_
          refine g_pure (p_len (by rfl) rfl) rfl ?_
          refine g_yes rfl rfl ?_
          refine g_pure (p_neqF rfl rfl (by omega)) rfl ?_
          first | refine g_pure (p_pickt rfl rfl) rfl ?_ | refine g_pure (p_pickf rfl rfl) rfl ?_
          refine g_nil ?_
          refine g_qt ?_
          refine g_iff rfl ?_
          refine g_skip ?_
          refine g_qt ?_
          refine g_seq ?_
          refine g_region ?_
          refine g_pure (p_move rfl) rfl ?_
          refine g_pure (p_len (by rfl) rfl) rfl ?_
          first | refine g_pure (p_addi rfl rfl (by omega)) rfl ?_ | refine g_pure (p_add rfl rfl) rfl ?_
          refine g_eff (e_make (by rfl) (by rfl) rfl rfl (by omega) (by first | omega | (dsimp only; omega)) (by omega)) rfl (fun _ _ => ?_)
          rintro ⟨b136, rfl, rfl⟩
          refine g_pure (p_assign rfl) rfl ?_
          refine g_nil ?_
          refine g_qt ?_
          refine g_seq ?_
          refine g_seq ?_
          refine g_region ?_
          refine g_pure (p_assign rfl) rfl ?_
          refine g_nil ?_
          refine g_qt ?_
          refine g_block ?_
          have hSm : ((X.length : Int) + 1).toNat = S.length := by omega
          have hreps : List.replicate ((X.length : Int) + 1).toNat (Value.bool false) = (List.replicate S.length false).map encB := by rw [hSm]; simp [encB]
          rw [hreps, hSm]
          refine g_loop (fun q : Nat × List Bool => [(9, .pointer (some ⟨p, 0, none⟩)), (11, .slice la qs.length lc), (14, .slice (some ⟨gm, 0, none⟩) X.length mc), (21, .slice ga Y.length gc), (23, .slice (some ⟨b136, 0, none⟩) S.length S.length), (24, .int .i64 q.1)])
            (fun q => [Gr p S, OwnSl 59 1 la qs.length lc (qs.map encI), OwnSl 4 1 (some ⟨gm, 0, none⟩) X.length mc (X.map encB), OwnSl 4 1 ga Y.length gc (Y.map encB), Blk b136 (.cells (q.2.map encB).toArray 4 (0, 0))])
            (fun q => q.1 ≤ qs.length ∧ q.2.length = S.length ∧ ∀ u, isM q.2 u → Nd S qs u) (fun q => qs.length - q.1) (0, List.replicate S.length false) ⟨Nat.zero_le _, by simp, fun u hu => by
              unfold isM at hu
              dsimp only at hu
              rw [List.getD_eq_getElem?_getD, List.getElem?_replicate] at hu
              split at hu <;> cases hu⟩ (by (repeat (first | exact trivial | refine ⟨by rfl, ?_⟩)); done) (by repeat' (first | exact Cover.nil | exact Take.here | apply Cover.cons | apply Take.there)) ?_
          rintro ⟨i2, Q⟩ ⟨hi2, hQ, hQn⟩
          dsimp only at hi2 hQ hQn ⊢
          refine g_seq ?_
          refine g_seq ?_
          refine g_region ?_
          refine g_pure (p_move rfl) rfl ?_
          refine g_pure (p_move rfl) rfl ?_
          refine g_pure (p_len (by rfl) rfl) rfl ?_
          refine g_pure (p_lss rfl rfl) rfl ?_
          refine g_nil ?_
          refine g_qt ?_
          refine g_ifd rfl (fun q2 => ?_) (fun q2 => ?_)
          · have hil2 : i2 < qs.length := by omega
            have hri := hall qs[i2] (List.getElem_mem hil2)
            have hri0 := hri.1
            have hri1 := hri.2
            have hrn : Nd S qs (qs[i2] / 2).toNat := .root (List.getElem_mem hil2)
            refine g_own (e := 59) (a1 := la) (k := qs.length) (cap := lc) (xs := qs.map encI) (by repeat' (first | exact Take.here | apply Take.there)) (fun _ h _ _ => absurd h (by omega)) (fun gn cn t1 t2 t3 t4 t5 t6 => ?_)
            subst t1
            have hz1 : cn[0 + (i2 : Int).toNat * 1]? = some (.int .i64 qs[i2]) := own_at (k := i2) t5 (by simp) (by rw [List.getElem?_map, List.getElem?_eq_getElem hil2]; rfl)
            generalize qs[i2] = rt at hri0 hri1 hrn hz1
            obtain ⟨ur, hur⟩ : ∃ u : Nat, rt / 2 = u := ⟨(rt / 2).toNat, by omega⟩
            rw [hur, Int.toNat_natCast] at hrn
            refine g_skip ?_
            refine g_qt ?_
            refine g_seq ?_
            refine g_block ?_
            refine g_region ?_
            refine g_pure (p_move rfl) rfl ?_
            refine g_pure (p_move rfl) rfl ?_
            refine g_pure (p_move rfl) rfl ?_
            refine g_pure (p_indexAddr rfl rfl (by omega) (fun _ => rfl)) rfl ?_
            refine g_pure (p_load (by rfl) rfl (Has.own (by repeat' (first | exact Take.here | apply Take.there))) hz1) rfl ?_
            first | refine g_pure (p_quon rfl rfl (by omega) (by omega)) rfl ?_ | refine g_pure (p_quoi rfl rfl (by omega) (by omega)) rfl ?_ | refine g_pure (p_quo rfl rfl (by omega)) rfl ?_
            refine g_pure (p_move rfl) rfl ?_
            rw [hur]
            refine g_call (Hin := [Blk b136 (.cells (Q.map encB).toArray 4 (0, 0))]) (Hr := ?hr14) (R := ?rr14) rfl rfl rfl ?hin14 ?hc14 ?hk14
            case hin14 => repeat' (first | exact Cover.nil | exact Take.here | apply Cover.cons | apply Take.there)
            case hc14 => intro ρ' hρ hR; exact need_ok S hw qs p b136 S.length ur (by omega) hrn Q (Take.ro (A := Gr p S) (by repeat' (first | exact Take.here | apply Take.there)) hR) hQ
            rintro _ _ ⟨rfl, Q3, hQ3, hs3, rfl⟩
            refine g_fold (k := qs.length) (cap := lc) (size := 1) (g := gn) (xs := qs.map encI) (by repeat' (first | exact Take.here | apply Take.there)) t2 t3 t4 t5 ?_
            refine g_nil ?_
            refine g_qb ?_
            refine g_qt ?_
            refine g_region ?_
            refine g_pure (p_move rfl) rfl ?_
            first | refine g_pure (p_addi rfl rfl (by omega)) rfl ?_ | refine g_pure (p_add rfl rfl) rfl ?_
            refine g_pure (p_assign rfl) rfl ?_
            refine g_nil ?_
            refine g_qn ?_
            exact g_next (i2 + 1, Q3) (by (repeat (first | exact trivial | refine ⟨by rfl, ?_⟩)); done) (by repeat' (first | exact Cover.nil | exact Take.here | apply Cover.cons | apply Take.there)) ⟨by dsimp only; omega, hQ3, fun u hu => (hs3 u hu).elim (hQn u) id⟩ (by dsimp only; omega)
          · refine g_own (e := 4) (a1 := some ⟨gm, 0, none⟩) (k := X.length) (cap := mc) (xs := X.map encB) (by repeat' (first | exact Take.here | apply Take.there)) (fun _ h _ _ => absurd h (by omega)) (fun gx cx v1 v2 v3 v4 v5 v6 => ?_)
            cases v1
            refine g_own (e := 4) (a1 := ga) (k := Y.length) (cap := gc) (xs := Y.map encB) (by repeat' (first | exact Take.here | apply Take.there)) (fun _ h _ _ => absurd h (by omega)) (fun gy cy t1 t2 t3 t4 t5 t6 => ?_)
            subst t1
            refine g_exit ?_
            refine g_qt_exit ?_
            refine g_qn_exit ?_
            refine g_qb_exit ?_
            refine g_qt ?_
            refine g_seq ?_
            refine g_seq ?_
            refine g_region ?_
            refine g_pure (p_assign rfl) rfl ?_
            refine g_nil ?_
            refine g_qt ?_
            refine g_block ?_
            refine g_loop (fun i : Nat => [(14, .slice (some ⟨gm, 0, none⟩) X.length mc), (21, .slice (some ⟨gy, 0, none⟩) Y.length gc), (23, .slice (some ⟨b136, 0, none⟩) S.length S.length), (25, .int .i64 ((i : Int) + 1))])
              (fun _ => [Blk gm (.cells cx.toArray 4 (0, 0)), Blk gy (.cells cy.toArray 4 (0, 0)), Blk b136 (.cells (Q.map encB).toArray 4 (0, 0))])
              (fun i => i + 1 ≤ S.length) (fun i => S.length - i) 0 (by omega) (by (repeat (first | exact trivial | refine ⟨by rfl, ?_⟩)); done) (by repeat' (first | exact Cover.nil | exact Take.here | apply Cover.cons | apply Take.there)) ?_
            intro i3 hi3
            refine g_seq ?_
            refine g_seq ?_
            refine g_region ?_
            refine g_pure (p_move rfl) rfl ?_
            refine g_pure (p_move rfl) rfl ?_
            refine g_pure (p_len (by rfl) rfl) rfl ?_
            refine g_pure (p_lss rfl rfl) rfl ?_
            refine g_nil ?_
            refine g_qt ?_
            refine g_ifd rfl (fun q3 => ?_) (fun q3 => ?_)
            · have hQb := getB (Q := Q) (v := i3 + 1) (by omega)
              have hvX : cx[0 + ((i3 : Int) + 1 - 1).toNat * 1]? = some (.bool (X.getD i3 false)) := own_at (k := i3) v5 (by omega) (by rw [List.getElem?_map, List.getElem?_eq_getElem (by omega), List.getD_eq_getElem?_getD, List.getElem?_eq_getElem (by omega)]; rfl)
              have hvY : cy[0 + ((i3 : Int) + 1 - 1).toNat * 1]? = some (.bool (Y.getD i3 false)) := own_at (k := i3) t5 (by omega) (by rw [List.getElem?_map, List.getElem?_eq_getElem (by omega), List.getD_eq_getElem?_getD, List.getElem?_eq_getElem (by omega)]; rfl)
              have hQb2 : (Q.map encB)[0 + ((i3 : Int) + 1).toNat * 1]? = some (.bool (Q.getD (i3 + 1) false)) := by
                rw [show (i3 : Int) + 1 = ((i3 + 1 : Nat) : Int) by omega]; exact hQb
              have heq : Q.getD (i3 + 1) false = true → Y.getD i3 false = X.getD i3 false := fun h => by
                have h1 := hlaw (i3 + 1) (by omega) (by omega) (hQn (i3 + 1) h)
                have h2 := hYv (i3 + 1) (by omega)
                rw [Nat.add_sub_cancel] at h1 h2
                rw [h2, h1]
              have e5 : (i3 : Int) + 1 + 1 = ((i3 + 1 : Nat) : Int) + 1 := by omega
              obtain ⟨qb, hqb⟩ : ∃ qb, Q.getD (i3 + 1) false = qb := ⟨_, rfl⟩
              rw [hqb] at hQb2 heq
              cases qb with
              | true =>
                refine g_skip ?_
                refine g_qt ?_
                refine g_seq ?_
                refine g_block ?_
                refine g_seq ?_
                refine m_begin0 (.fl 0 0 (.fl 1 0 (.fl 2 0 (.fl 3 1 (.fl 4 0 (.fl 5 0 (.fl 6 0 (.fl 7 0 (.fl 8 0 (.fl 9 1 (.fl 10 0 (.fl 11 0 (.fl 12 0 (.fl 13 0 (.fl 14 1 (.fl 15 0 (.fl 16 0 .done))))))))))))))))) (by kernel_rfl) (by kernel_rfl) ?_
                refine m_float0 rfl (fun _ _ => p_move rfl) rfl ?_
                refine m_float0 rfl (fun _ _ => p_move rfl) rfl ?_
                refine m_float0 rfl (fun _ _ => p_indexAddr rfl rfl (by omega) (fun _ => rfl)) rfl ?_
                refine m_float rfl (p_load (by rfl) rfl (Has.own (by repeat' (first | exact Take.here | apply Take.there))) hQb2) rfl ?_
                refine m_float0 rfl (fun _ _ => p_move rfl) rfl ?_
                refine m_yes0 rfl rfl rfl (fun _ _ => p_move rfl) rfl ?_
                refine m_yes0 rfl rfl rfl (fun _ _ => p_move rfl) rfl ?_
                first | refine m_yes0 rfl rfl rfl (fun _ _ => p_subi rfl rfl (by omega)) rfl ?_ | refine m_yes0 rfl rfl rfl (fun _ _ => p_sub rfl rfl) rfl ?_
                refine m_yes0 rfl rfl rfl (fun _ _ => p_indexAddr rfl rfl (by omega) (fun _ => rfl)) rfl ?_
                refine m_yes rfl rfl rfl (p_load (by rfl) rfl (Has.own (by repeat' (first | exact Take.here | apply Take.there))) hvY) rfl ?_
                refine m_yes0 rfl rfl rfl (fun _ _ => p_move rfl) rfl ?_
                refine m_yes0 rfl rfl rfl (fun _ _ => p_move rfl) rfl ?_
                first | refine m_yes0 rfl rfl rfl (fun _ _ => p_subi rfl rfl (by omega)) rfl ?_ | refine m_yes0 rfl rfl rfl (fun _ _ => p_sub rfl rfl) rfl ?_
                refine m_yes0 rfl rfl rfl (fun _ _ => p_indexAddr rfl rfl (by omega) (fun _ => rfl)) rfl ?_
                refine m_yes rfl rfl rfl (p_load (by rfl) rfl (Has.own (by repeat' (first | exact Take.here | apply Take.there))) hvX) rfl ?_
                refine m_yes0 rfl rfl rfl (fun _ _ => p_neqbF (by rfl) rfl rfl (heq rfl)) rfl ?_
                first | refine m_float0 rfl (fun _ _ => p_pickt rfl rfl) rfl ?_ | refine m_float0 rfl (fun _ _ => p_pickf rfl rfl) rfl ?_
                refine m_nil ?_
                refine g_qt ?_
                refine g_iff rfl ?_
                refine g_skip ?_
                refine g_qb ?_
                refine g_qt ?_
                refine g_region ?_
                refine g_pure (p_move rfl) rfl ?_
                first | refine g_pure (p_addi rfl rfl (by omega)) rfl ?_ | refine g_pure (p_add rfl rfl) rfl ?_
                refine g_pure (p_assign rfl) rfl ?_
                refine g_nil ?_
                refine g_qn ?_
                rw [e5]
                exact g_next (i3 + 1) (by (repeat (first | exact trivial | refine ⟨by rfl, ?_⟩)); done) (by repeat' (first | exact Cover.nil | exact Take.here | apply Cover.cons | apply Take.there)) (by omega) (by omega)
              | false =>
                refine g_skip ?_
                refine g_qt ?_
                refine g_seq ?_
                refine g_block ?_
                refine g_seq ?_
                refine m_begin0 (.fl 0 0 (.fl 1 0 (.fl 2 0 (.fl 3 1 (.fl 4 0 (.fl 5 0 (.fl 6 0 (.fl 7 0 (.fl 8 0 (.fl 9 1 (.fl 10 0 (.fl 11 0 (.fl 12 0 (.fl 13 0 (.fl 14 1 (.fl 15 0 (.fl 16 0 .done))))))))))))))))) (by kernel_rfl) (by kernel_rfl) ?_
                refine m_float0 rfl (fun _ _ => p_move rfl) rfl ?_
                refine m_float0 rfl (fun _ _ => p_move rfl) rfl ?_
                refine m_float0 rfl (fun _ _ => p_indexAddr rfl rfl (by omega) (fun _ => rfl)) rfl ?_
                refine m_float rfl (p_load (by rfl) rfl (Has.own (by repeat' (first | exact Take.here | apply Take.there))) hQb2) rfl ?_
                refine m_float0 rfl (fun _ _ => p_move rfl) rfl ?_
                refine m_no0 rfl rfl rfl rfl rfl ?_
                refine m_no0 rfl rfl rfl rfl rfl ?_
                refine m_no0 rfl rfl rfl rfl rfl ?_
                refine m_no0 rfl rfl rfl rfl rfl ?_
                refine m_no rfl rfl rfl rfl rfl ?_
                refine m_no0 rfl rfl rfl rfl rfl ?_
                refine m_no0 rfl rfl rfl rfl rfl ?_
                refine m_no0 rfl rfl rfl rfl rfl ?_
                refine m_no0 rfl rfl rfl rfl rfl ?_
                refine m_no rfl rfl rfl rfl rfl ?_
                refine m_no0 rfl rfl rfl rfl rfl ?_
                first | refine m_float0 rfl (fun _ _ => p_pickt rfl rfl) rfl ?_ | refine m_float0 rfl (fun _ _ => p_pickf rfl rfl) rfl ?_
                refine m_nil ?_
                refine g_qt ?_
                refine g_iff rfl ?_
                refine g_skip ?_
                refine g_qb ?_
                refine g_qt ?_
                refine g_region ?_
                refine g_pure (p_move rfl) rfl ?_
                first | refine g_pure (p_addi rfl rfl (by omega)) rfl ?_ | refine g_pure (p_add rfl rfl) rfl ?_
                refine g_pure (p_assign rfl) rfl ?_
                refine g_nil ?_
                refine g_qn ?_
                rw [e5]
                exact g_next (i3 + 1) (by (repeat (first | exact trivial | refine ⟨by rfl, ?_⟩)); done) (by repeat' (first | exact Cover.nil | exact Take.here | apply Cover.cons | apply Take.there)) (by omega) (by omega)
            · refine g_exit ?_
              refine g_qt_exit ?_
              refine g_qn_exit ?_
              refine g_qb_exit ?_
              refine g_qt ?_
              refine g_seq ?_
              refine g_region ?_
              refine g_call (Hin := []) (Hr := ?hr15) (R := ?rr15) rfl rfl rfl ?hin15 ?hc15 ?hk15
              case hin15 => repeat' (first | exact Cover.nil | exact Take.here | apply Cover.cons | apply Take.there)
              case hc15 => intro ρ' hρ hR; exact awake36_ok (hk.mono hρ)
              rintro _ _ ⟨rfl, rfl⟩
              refine g_pure (p_assign rfl) rfl ?_
              refine g_nil ?_
              refine g_qt ?_
              refine g_ret ?_
              exact g_post (Ho := []) (rs := [.tmp 8]) rfl (.tmp rfl .nil) rfl .nil
  · refine g_call (Hin := []) (Hr := ?hr16) (R := ?rr16) rfl rfl rfl ?hin16 ?hc16 ?hk16
    case hin16 => repeat' (first | exact Cover.nil | exact Take.here | apply Cover.cons | apply Take.there)
    case hc16 => intro ρ' hρ hR; exact of_no p S hw (Take.ro (A := Gr p S) (by repeat' (first | exact Take.here | apply Take.there)) hR) la lc qs (RSl.of_own (Take.ro (A := OwnSl 59 1 la qs.length lc (qs.map encI)) (by repeat' (first | exact Take.here | apply Take.there)) hR)) (by omega) hI2 hall
    rintro _ _ ⟨rfl, rfl⟩
    refine g_pure (p_move rfl) rfl ?_
    refine g_pure (p_extract rfl rfl) rfl ?_
    refine g_pure (p_extract rfl rfl) rfl ?_
    refine g_eff (e_alloc (by rfl)) rfl (fun _ _ => ?_)
    rintro ⟨b12, rfl, rfl⟩
    first | refine g_eff0 (e_storeO rfl rfl (by rfl) (by rfl) (by rfl) (by repeat' (first | exact Take.here | apply Take.there)) (by rfl)) (fun _ _ => ?_) | refine g_eff0 (e_storeN rfl rfl (by rfl) (by rfl) (by rfl) (by repeat' (first | exact Take.here | apply Take.there)) (by simp)) (fun _ _ => ?_)
    rintro rfl
    refine g_pure (p_assign rfl) rfl ?_
    refine g_nil ?_
    refine g_qt ?_
    refine g_seq ?_
    refine g_region ?_
    refine g_pure (p_move rfl) rfl ?_
    refine g_pure (p_move rfl) rfl ?_
    refine g_pure (p_move rfl) rfl ?_
    refine g_call (Hin := []) (Hr := ?hr17) (R := ?rr17) rfl rfl rfl ?hin17 ?hc17 ?hk17
    case hin17 => repeat' (first | exact Cover.nil | exact Take.here | apply Cover.cons | apply Take.there)
    case hc17 => intro ρ' hρ hR; exact (bits36_ok ia ic inp (hin.mono hρ) hil (ins 0 S).length (by omega)).mono (R' := fun v H => ∃ a c, v = .slice a bs.length c ∧ H = [OwnSl 4 1 a bs.length c (bs.map encB)]) (fun v H ⟨a0, c0, h1, h2⟩ => ⟨a0, c0, by rw [hbl]; exact h1, by rw [hbl, ← hbsd]; exact h2⟩)
    rintro _ _ ⟨ba, bc, rfl, rfl⟩
    refine g_call (Hin := []) (Hr := ?hr18) (R := ?rr18) rfl rfl rfl ?hin18 ?hc18 ?hk18
    case hin18 => repeat' (first | exact Cover.nil | exact Take.here | apply Cover.cons | apply Take.there)
    case hc18 => intro ρ' hρ hR; exact all36_ok p S hw (Take.ro (A := Gr p S) (by repeat' (first | exact Take.here | apply Take.there)) hR) ba bc bs (RSl.of_own (Take.ro (A := OwnSl 4 1 ba bs.length bc (bs.map encB)) (by repeat' (first | exact Take.here | apply Take.there)) hR)) hbl
    rintro _ _ ⟨ma, mc, rfl, rfl⟩
    refine g_pure (p_move rfl) rfl ?_
    refine g_pure (p_extract rfl rfl) rfl ?_
    refine g_pure (p_extract rfl rfl) rfl ?_
    refine g_pure (p_assign rfl) rfl ?_
    refine g_pure (p_assign rfl) rfl ?_
    refine g_nil ?_
    refine g_qt ?_
    refine g_seq ?_
    refine g_seq ?_
    refine g_region ?_
    refine g_pure (p_move rfl) rfl ?_
    refine g_pure (p_neqT rfl rfl (by decide)) rfl ?_
    refine g_pure (p_move rfl) rfl ?_
    refine g_no rfl rfl rfl rfl ?_
    refine g_no rfl rfl rfl rfl ?_
    first | refine g_pure (p_pickt rfl rfl) rfl ?_ | refine g_pure (p_pickf rfl rfl) rfl ?_
    refine g_pure (p_move rfl) rfl ?_
    refine g_no rfl rfl rfl rfl ?_
    refine g_no rfl rfl rfl rfl ?_
    refine g_no rfl rfl rfl rfl ?_
    first | refine g_pure (p_pickt rfl rfl) rfl ?_ | refine g_pure (p_pickf rfl rfl) rfl ?_
    refine g_nil ?_
    refine g_qt ?_
    refine g_ift rfl ?_
    refine g_seq ?_
    refine g_region ?_
    refine g_pure (p_move rfl) rfl ?_
    refine g_pure (p_neqT rfl rfl (by decide)) rfl ?_
    refine g_pure (p_move rfl) rfl ?_
    refine g_yes rfl rfl ?_
    refine g_call (Hin := []) (Hr := ?hr19) (R := ?rr19) rfl rfl rfl ?hin19 ?hc19 ?hk19
    case hin19 => repeat' (first | exact Cover.nil | exact Take.here | apply Cover.cons | apply Take.there)
    case hc19 => intro ρ' hρ hR; exact awake36_ok (hk.mono hρ)
    rintro _ _ ⟨rfl, rfl⟩
    first | refine g_pure (p_pickt rfl rfl) rfl ?_ | refine g_pure (p_pickf rfl rfl) rfl ?_
    refine g_pure (p_move rfl) rfl ?_
    refine g_no rfl rfl rfl rfl ?_
    refine g_no rfl rfl rfl rfl ?_
    refine g_nou rfl rfl rfl ?_
    refine g_no rfl rfl rfl rfl ?_
    first | refine g_pure (p_pickt rfl rfl) rfl ?_ | refine g_pure (p_pickf rfl rfl) rfl ?_
    refine g_pure (p_assign rfl) rfl ?_
    refine g_nil ?_
    refine g_qt ?_
    refine g_ret ?_
    refine g_qt_ret ?_
    exact g_post (Ho := []) (rs := [.tmp 8]) rfl (.tmp rfl .nil) rfl .nil
end Go.Proofs.YtopgbgnmjogeeaaGreatDoor
