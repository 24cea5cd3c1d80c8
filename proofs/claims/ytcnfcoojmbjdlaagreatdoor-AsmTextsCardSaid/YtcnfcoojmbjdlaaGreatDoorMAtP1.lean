/- Own texts, put together: Pw Pk Px Pl Pm Py. Conditions: as told at each. -/
import Derived.Test.YtcnfcoojmbjdlaaGreatDoorMAtP0
import Derived.Test.YtcnfcoojmbjdlaaGreatDoorHq
import Derived.Test.YtcnfcoojmbjdlaaGreatDoorMAtQ0
import Derived.Test.YtcnfcoojmbjdlaaGreatDoorZm
/- Chapter 26: a text read. Conditions: what the library's variables hold (LibA). -/
namespace Go.Z.Asm
set_option maxRecDepth 8000
set_option linter.unusedVariables false
set_option linter.unusedSimpArgs false
set_option linter.unusedSectionVars false
open Go Go.Z Go.Lib Go.Z.Txt
theorem own_empty (TI TC TR : TypeId) : OwnIm TI TC TR none none 0 0 ([], []) (fun _ => none) := by
  refine ⟨_, ⟨[], rfl, rfl⟩, ?_⟩
  have e : ∀ (T : TypeId) (n : Nat), OwnSl T n none 0 0 [] (fun _ => none) := fun T n => ⟨by simp, .inl ⟨rfl, rfl, rfl, rfl⟩⟩
  have hj : join (fun _ : Nat => (none : Option Obj)) (fun _ => none) = fun _ => none := by funext c; rfl
  have hd : Disj (fun _ : Nat => (none : Option Obj)) (fun _ => none) := fun c => .inl rfl
  have s0 : Sat [] (fun _ => none) := rfl
  have s1 : Sat [Al (List.map (fragP TI TC) [])] (fun _ => none) := ⟨_, _, al_nil, s0, hd, hj.symm⟩
  have s2 : Sat [OwnSl TR 6 none 0 0 [], Al (List.map (fragP TI TC) [])] (fun _ => none) := ⟨_, _, e TR 6, s1, hd, hj.symm⟩
  exact ⟨_, _, e TI 1, s2, hd, hj.symm⟩
end Go.Z.Asm
namespace Go.Proofs.YtcnfcoojmbjdlaaGreatDoor
set_option maxRecDepth 8000
set_option linter.unusedVariables false
set_option linter.unusedSimpArgs false
set_option linter.unusedSectionVars false
open Go Go.Z Go.Z.Asm Go.RowKit Go.Z.Txt

theorem parseA_ok {ρ : Nat → Obj → Prop} (hk : LibA ρ) (s : List UInt8) (hs : s.length ≤ 4194304) {o : Im × Int × Int} (ho : outP (parseR s) = o) :
    Con Tryz.prog ρ 25 #[.string (strB s)] [] (fun v H => ∃ ea ec ra rc, v = .tuple #[.agg #[.slice ea o.1.1.length ec, .slice ra o.1.2.length rc], .int .i64 o.2.1, .int .i64 o.2.2] ∧ H = [OwnIm 3 32 45 ea ra ec rc o.1]) := by
  have hsz : (strB s).size = s.length := rfl
  have hpl := pieces_le 10 s
  have hp0 := pieces_ne 10 s
  have hpm : ∀ l ∈ pieces 10 s, l.length < 4294967281 := fun l hl => Nat.lt_of_le_of_lt (pieces_mem hl).2 (by omega)
  obtain ⟨R, hR⟩ : ∃ R, parseR s = R := ⟨_, rfl⟩
  have hbd := fun im (h : R = .ok im) => read_bounds (hR.trans h) hs
  have hR0 : R = readL startP (pieces 10 s) 0 := hR.symm
  rw [hR] at ho
  generalize hls : pieces 10 s = ls at hpl hp0 hpm hR0
  have hpos : 0 < ls.length := List.length_pos_iff.2 hp0
  have hI0 : Inv ls R startP (0, 0) := ⟨hpos, fun _ => hR0, fun h => absurd rfl h⟩
  have hI1 := fun v => inv_list (w := 0) (v := v) hI0 rfl (by decide) (by decide)
  have hl1 : (listS ls enumW (-1) (0, 0)).1 < ls.length := listS_lt enumW (-1) hpos
  have mkL : ∀ {ρ' : Nat → Obj → Prop} {lb : Nat}, ρ' lb (.cells (ls.map strV).toArray 9 (0, 0)) → Lns ρ' lb ls := fun h => ⟨⟨_, _, h⟩, hpos, by omega, hpm⟩
  refine con_intro Tryz.func25 Tryz.call25 rfl Tryz.ntmps25 rfl (L := [(0, _)]) rfl fun w hh => ?_
  refine g_seq <| g_region ?_
  refine g_eff (e_alloc (by rfl)) rfl (fun _ _ => ?_)
  rintro ⟨b2, rfl, rfl⟩
  refine g_pure (p_assign rfl) rfl ?_
  refine g_pure (p_assign rfl) rfl ?_
  refine g_nil <| g_qt <| g_seq <| g_seq <| g_region ?_
  refine g_pure (p_move rfl) rfl ?_
  refine g_pure (p_lens (by rfl) rfl) rfl ?_
  refine g_pure (p_gtr rfl rfl) rfl ?_
  refine g_nil <| g_qt ?_
  refine g_ifd rfl (fun q0 => ?_) (fun q0 => ?_)
  · exfalso; omega
  · refine g_skip <| g_qt <| g_seq <| g_region ?_
    refine g_pure (p_move rfl) rfl ?_
    refine g_call (Hin := []) (Hr := ?hr1) (R := ?rr1) rfl rfl rfl ?hin1 ?hc1 ?hk1
    case hin1 => repeat' (first | exact Cover.nil | exact Take.here | apply Cover.cons | apply Take.there)
    case hc1 => intro ρ' hρ hR; exact split_ok (hk.mono hρ) s 10 (by omega)
    rintro _ _ ⟨lb, rfl, rfl⟩
    rw [hls]
    refine g_pure (p_build (by rfl) rfl (by rfl)) rfl ?_
    refine g_eff (e_box rfl (by rfl)) rfl (fun _ _ => ?_)
    rintro ⟨b15, rfl, rfl⟩
    refine g_pure (p_assign rfl) rfl ?_
    refine g_nil <| g_qt <| g_seq <| g_region ?_
    refine g_pure (p_move rfl) rfl ?_
    rw [show Blk b15 (.cells [.slice (some ⟨lb, 0, none⟩) ls.length ls.length, .int .i64 0, .int .i64 0].toArray 73 (0, 0)) = Rd 73 b15 lb ls.length (0, 0) from rfl]
    refine g_call (Hin := [Rd 73 b15 lb ls.length (0, 0)]) (Hr := ?hr2) (R := ?rr2) rfl rfl rfl ?hin2 ?hc2 ?hk2
    case hin2 => repeat' (first | exact Cover.nil | exact Take.here | apply Cover.cons | apply Take.there)
    case hc2 => intro ρ' hρ hR; exact list_ok (hk.mono hρ) (mkL (Take.ro (A := Blk lb (.cells (ls.map strV).toArray 9 (0, 0))) (by repeat' (first | exact Take.here | apply Take.there)) hR).blk) b15 (0, 0) hpos enumW (-1)
    rintro _ _ ⟨a17, c17, out17, rfl, hn17, hv17, rfl⟩
    refine g_pure (p_build (by rfl) rfl (by rfl)) rfl ?_
    refine g_eff (e_alloc (by rfl)) rfl (fun _ _ => ?_)
    rintro ⟨b6, rfl, rfl⟩
    first | refine g_eff0 (e_storeO rfl rfl (by rfl) (by rfl) (by rfl) (by repeat' (first | exact Take.here | apply Take.there)) (by rfl)) (fun _ _ => ?_) | refine g_eff0 (e_storeN rfl rfl (by rfl) (by rfl) (by rfl) (by repeat' (first | exact Take.here | apply Take.there)) (by simp)) (fun _ _ => ?_)
    rintro rfl
    refine g_nil <| g_qt <| g_seq <| g_block ?_
    have hI2 : Inv ls R (out17, [], emptyRt, 1) (listS ls enumW (-1) (0, 0)) := hI1 out17 hv17
    generalize listS ls enumW (-1) (0, 0) = s1 at hI2 hl1 ⊢
    refine g_ownnil (e := 45) (size := 6) ?_
    refine g_emp (A := Al (List.map (fragP 3 32) [])) al_nil ?_
    refine g_loop (fun _ : List (Hd × Rt) × (Option Addr × Nat) × Rt × RS => [(2, .pointer (some ⟨b2, 0, none⟩)), (5, .pointer (some ⟨b15, 0, none⟩)), (6, .pointer (some ⟨b6, 0, none⟩))])
      (fun y => [OwnSl 45 6 y.2.1.1 y.1.length y.2.1.2 (y.1.flatMap rowO), Al (y.1.map (fragP 3 32)), Blk b6 (.cells [.slice a17 out17.length c17, .slice y.2.1.1 y.1.length y.2.1.2].toArray 25 (0, 0)), OwnSl 3 1 a17 out17.length c17 (out17.map encI), Rd 73 b15 lb ls.length y.2.2.2, Blk lb (.cells (ls.map strV).toArray 9 (0, 0)), Blk b2 (.cells [.slice none 0 0, .slice none 0 0].toArray 25 (0, 0))])
      (fun y => Inv ls R (out17, y.1.map (·.2), y.2.2.1, 1) y.2.2.2 ∧ (y.2.2.2.2 = 0 → y.1.length ≤ y.2.2.2.1)) (fun y => if y.2.2.2.2 = 0 then ls.length + 1 - y.2.2.2.1 else 0) ([], (none, 0), emptyRt, s1) ⟨hI2, fun _ => Nat.zero_le _⟩ (by (repeat (first | exact trivial | refine ⟨by rfl, ?_⟩)); done) (by repeat' (first | exact Cover.nil | exact Take.here | apply Cover.cons | apply Take.there)) ?_
    rintro ⟨P, ⟨ra, rc⟩, cur, t⟩ ⟨hIt, hPt⟩
    dsimp only at hIt hPt ⊢
    have htl := hIt.1
    refine g_seq <| g_seq <| g_region ?_
    refine g_pure (p_move rfl) rfl ?_
    refine g_call (Hin := [Rd 73 b15 lb ls.length t]) (Hr := ?hr3) (R := ?rr3) rfl rfl rfl ?hin3 ?hc3 ?hk3
    case hin3 => repeat' (first | exact Cover.nil | exact Take.here | apply Cover.cons | apply Take.there)
    case hc3 => intro ρ' hρ hR; exact more_ok (mkL (Take.ro (A := Blk lb (.cells (ls.map strV).toArray 9 (0, 0))) (by repeat' (first | exact Take.here | apply Take.there)) hR).blk) b15 t htl
    rintro _ _ ⟨rfl, rfl⟩
    refine g_nil <| g_qt ?_
    cases hm : moreS ls t
    · have hstop := inv_stop hIt rfl hm
      refine g_iff rfl ?_
      refine g_exit <| g_qt_exit <| g_qn_exit <| g_qb_exit <| g_qt <| g_seq <| g_seq <| g_region ?_
      refine g_pure (p_move rfl) rfl ?_
      refine g_pure (p_nilCheck rfl) rfl ?_
      refine g_pure (p_fieldAddr rfl) rfl ?_
      refine g_pure (p_loadA) rfl ?_
      refine g_pure (p_neq rfl rfl) rfl ?_
      refine g_nil <| g_qt ?_
      obtain ⟨at2, e2⟩ := t
      dsimp only at hstop
      unfold Rd
      dsimp only
      refine g_ifnd rfl (fun q1 => ?_) (fun q1 => ?_)
      · rw [if_neg q1] at hstop
        have ho' : o = (([], []), (at2 : Int) + 1, e2) := by rw [← ho, hstop]; rfl
        subst ho'
        refine g_seq ?_
        refine m_begin0 (.fl 0 0 (.fl 1 0 (.fl 2 0 (.fl 3 0 (.fl 4 1 (.fl 5 0 (.fl 6 0 (.fl 7 0 (.fl 8 0 (.fl 9 1 (.ef 10 (.fl 11 0 (.fl 12 0 .done))))))))))))) (by kernel_rfl) (by kernel_rfl) ?_
        refine m_float0 rfl (fun _ _ => p_build (by rfl) rfl (by rfl)) rfl ?_
        refine m_float0 rfl (fun _ _ => p_move rfl) rfl ?_
        refine m_float0 rfl (fun _ _ => p_nilCheck rfl) rfl ?_
        refine m_float0 rfl (fun _ _ => p_fieldAddr rfl) rfl ?_
        refine m_float rfl (p_loadA) rfl ?_
        first | refine m_float0 rfl (fun _ _ => p_addi rfl rfl (by omega)) rfl ?_ | refine m_float0 rfl (fun _ _ => p_add rfl rfl) rfl ?_
        refine m_float0 rfl (fun _ _ => p_move rfl) rfl ?_
        refine m_float0 rfl (fun _ _ => p_nilCheck rfl) rfl ?_
        refine m_float0 rfl (fun _ _ => p_fieldAddr rfl) rfl ?_
        refine m_float rfl (p_loadA) rfl ?_
        first | refine m_eff0 rfl (e_storeO rfl rfl (by rfl) (by rfl) (by rfl) (by repeat' (first | exact Take.here | apply Take.there)) (by rfl)) (fun _ _ => ?_) | refine m_eff0 rfl (e_storeN rfl rfl (by rfl) (by rfl) (by rfl) (by repeat' (first | exact Take.here | apply Take.there)) (by simp)) (fun _ _ => ?_)
        rintro rfl
        refine ⟨.some (by repeat' (first | exact Cover.nil | exact Take.here | apply Cover.cons | apply Take.there)), ?_⟩
        refine m_float0 rfl (fun _ _ => p_assign rfl) rfl ?_
        refine m_float0 rfl (fun _ _ => p_assign rfl) rfl ?_
        refine m_nil ?_
        refine g_qt <| g_ret <| g_qt_ret ?_
        refine g_emp (own_empty 3 32 45) ?_
        exact g_postA (rs := [.cell 2 25, .tmp 3, .tmp 4]) rfl (Res.cellN (by rfl) rfl (Has.own (by repeat' (first | exact Take.here | apply Take.there))) (by rfl) (.tmp rfl (.tmp rfl .nil))) ⟨none, 0, none, 0, rfl, rfl⟩
      · have q1' : e2 = 0 := q1
        rw [if_pos q1'] at hstop
        obtain ⟨im, him⟩ : ∃ im : Im, im = (out17, P.map (·.2)) := ⟨_, rfl⟩
        have hRo : R = .ok im := by rw [hstop, him]
        obtain ⟨m1, m2, m3, m4⟩ := hbd im hRo
        have hPl : P.length = im.2.length := by rw [him]; exact (List.length_map ..).symm
        have hOl : out17 = im.1 := by rw [him]
        have ho' : o = if checkP im = 0 then (im, 0, 0) else (([], []), 0, checkP im) := by rw [← ho, hRo]; rfl
        rw [hPl, hOl]
        refine g_close (K := OwnImK 3 32 45 a17 ra c17 rc im) (H1 := [OwnSl 3 1 a17 im.1.length c17 (im.1.map encI), OwnSl 45 6 ra im.2.length rc (P.flatMap rowO), Al (P.map (fragP 3 32))]) ⟨P, by rw [him], rfl⟩ (by repeat' (first | exact Cover.nil | exact Take.here | apply Cover.cons | apply Take.there)) ?_
        refine g_skip <| g_qt <| g_seq <| g_seq <| g_region ?_
        first | refine g_pure (p_loadO (by rfl) rfl (by first | (apply Has.own; (repeat' (first | exact Take.here | apply Take.there)); done) | exact Has.ro (by assumption)) (by rfl)) rfl ?_ | refine g_pure (p_loadN (by rfl) rfl (by first | (apply Has.own; (repeat' (first | exact Take.here | apply Take.there)); done) | exact Has.ro (by assumption)) (by first | rfl | assumption)) rfl ?_
        refine g_call (Hin := []) (Hr := ?hr4) (R := ?rr4) rfl rfl rfl ?hin4 ?hc4 ?hk4
        case hin4 => repeat' (first | exact Cover.nil | exact Take.here | apply Cover.cons | apply Take.there)
        case hc4 => intro ρ' hρ hR; exact checkA_ok (ec := c17) (rc := rc) (hk.mono hρ).ops (own_im (TI := 3) (TC := 32) (TR := 45) (ec := c17) (rc := rc) (Take.ro (A := Pk (OwnImK 3 32 45 a17 ra c17 rc im)) (by repeat' (first | exact Take.here | apply Take.there)) hR) m1 m2 m3 m4)
        rintro _ _ ⟨rfl, rfl⟩
        refine g_pure (p_assign rfl) rfl ?_
        refine g_nil <| g_qt <| g_seq <| g_region ?_
        refine g_pure (p_move rfl) rfl ?_
        refine g_pure (p_neq rfl rfl) rfl ?_
        refine g_nil <| g_qt ?_
        refine g_ifnd rfl (fun q2 => ?_) (fun q2 => ?_)
        · rw [if_neg q2] at ho'
          subst ho'
          refine g_seq <| g_region ?_
          refine g_pure (p_build (by rfl) rfl (by rfl)) rfl ?_
          refine g_pure (p_move rfl) rfl ?_
          first | refine g_eff0 (e_storeO rfl rfl (by rfl) (by rfl) (by rfl) (by repeat' (first | exact Take.here | apply Take.there)) (by rfl)) (fun _ _ => ?_) | refine g_eff0 (e_storeN rfl rfl (by rfl) (by rfl) (by rfl) (by repeat' (first | exact Take.here | apply Take.there)) (by simp)) (fun _ _ => ?_)
          rintro rfl
          refine g_pure (p_assign rfl) rfl ?_
          refine g_pure (p_assign rfl) rfl ?_
          refine g_nil <| g_qt <| g_ret <| g_qt_ret ?_
          refine g_emp (own_empty 3 32 45) ?_
          exact g_postA (rs := [.cell 2 25, .tmp 3, .tmp 4]) rfl (Res.cellN (by rfl) rfl (Has.own (by repeat' (first | exact Take.here | apply Take.there))) (by rfl) (.tmp rfl (.tmp rfl .nil))) ⟨none, 0, none, 0, rfl, rfl⟩
        · rw [if_pos q2] at ho'
          subst ho'
          refine g_skip <| g_qt <| g_seq <| g_region ?_
          first | refine g_pure (p_loadO (by rfl) rfl (by first | (apply Has.own; (repeat' (first | exact Take.here | apply Take.there)); done) | exact Has.ro (by assumption)) (by rfl)) rfl ?_ | refine g_pure (p_loadN (by rfl) rfl (by first | (apply Has.own; (repeat' (first | exact Take.here | apply Take.there)); done) | exact Has.ro (by assumption)) (by first | rfl | assumption)) rfl ?_
          first | refine g_eff0 (e_storeO rfl rfl (by rfl) (by rfl) (by rfl) (by repeat' (first | exact Take.here | apply Take.there)) (by rfl)) (fun _ _ => ?_) | refine g_eff0 (e_storeN rfl rfl (by rfl) (by rfl) (by rfl) (by repeat' (first | exact Take.here | apply Take.there)) (by simp)) (fun _ _ => ?_)
          rintro rfl
          refine g_pure (p_assign rfl) rfl ?_
          refine g_pure (p_assign rfl) rfl ?_
          refine g_nil <| g_qt <| g_ret ?_
          exact g_postA (Ho := [OwnIm 3 32 45 a17 ra c17 rc im]) (rs := [.cell 2 25, .tmp 3, .tmp 4]) rfl (Res.cellN (by rfl) rfl (Has.own (by repeat' (first | exact Take.here | apply Take.there))) (by rfl) (.tmp rfl (.tmp rfl .nil))) ⟨a17, c17, ra, rc, rfl, rfl⟩
    · have ht0 : t.2 = 0 := by unfold moreS at hm; rw [Bool.and_eq_true, decide_eq_true_eq] at hm; exact hm.1
      have hPt' := hPt ht0
      refine g_ift rfl ?_
      refine g_skip <| g_qt <| g_block ?_
      refine m_begin (.fl 0 0 (.fl 1 1 (.fl 2 0 (.ef 3 (.ef 4 (.ef 5 (.fl 6 0 (.ef 7 .done)))))))) [OwnSl 45 6 ra P.length rc (P.flatMap rowO), Al (P.map (fragP 3 32)), Blk b6 (.cells [.slice a17 out17.length c17, .slice ra P.length rc].toArray 25 (0, 0)), OwnSl 3 1 a17 out17.length c17 (out17.map encI), Blk lb (.cells (ls.map strV).toArray 9 (0, 0)), Blk b2 (.cells [.slice none 0 0, .slice none 0 0].toArray 25 (0, 0))] (by kernel_rfl) (by kernel_rfl) (by repeat' (first | exact Cover.nil | exact Take.here | apply Cover.cons | apply Take.there)) ?_
      refine m_float0 rfl (fun _ _ => p_fieldAddr rfl) rfl ?_
      refine m_float rfl (p_loadA) rfl ?_
      refine m_float0 rfl (fun _ _ => p_move rfl) rfl ?_
      refine m_call (Hin := [Rd 73 b15 lb ls.length t]) (Hr := ?hr5) (R := ?rr5) rfl wantedN rfl rfl rfl ?hin5 ?hc5 ?hk5
      case hin5 => repeat' (first | exact Cover.nil | exact Take.here | apply Cover.cons | apply Take.there)
      case hc5 => intro ρ' hρ hR; exact routG_ok (hk.mono hρ) (mkL (Take.ro (A := Blk lb (.cells (ls.map strV).toArray 9 (0, 0))) (by repeat' (first | exact Take.here | apply Take.there)) hR).blk) (by omega) b15 t hIt rfl hm
      rintro _ _ ⟨hd, x, t', rfl, rfl, hI', hp'⟩
      refine ⟨.some (by repeat' (first | exact Cover.nil | exact Take.here | apply Cover.cons | apply Take.there)), ?_⟩
      refine m_eff rfl (e_bs (xs := [.tmp 24]) rfl rfl rfl (by rfl) (by rfl) rfl (by rfl)) rfl (fun _ _ => ?_)
      rintro ⟨b25, rfl, rfl⟩
      refine ⟨.some (by repeat' (first | exact Cover.nil | exact Take.here | apply Cover.cons | apply Take.there)), ?_⟩
      refine m_eff rfl (e_appendO (by rfl) (by rfl) rfl rfl (by first | (apply Has.own; (repeat' (first | exact Take.here | apply Take.there)); done) | exact Has.ro (by assumption)) (by rfl) (by rfl) (by repeat' (first | exact Take.here | apply Take.there)) (by omega) (by first | omega | (dsimp only; omega) | (simp <;> omega)) (by omega)) rfl (fun _ _ => ?_)
      rintro ⟨a26, c26, rfl, rfl⟩
      refine ⟨.none (by kernel_rfl), ?_⟩
      refine m_float0 rfl (fun _ _ => p_fieldAddr rfl) rfl ?_
      first | refine m_eff0 rfl (e_storeO rfl rfl (by rfl) (by rfl) (by rfl) (by repeat' (first | exact Take.here | apply Take.there)) (by rfl)) (fun _ _ => ?_) | refine m_eff0 rfl (e_store1 (by rfl) rfl rfl rfl (by repeat' (first | exact Take.here | apply Take.there)) (by first | decide | (simp <;> omega) | omega)) (fun _ _ => ?_)
      rintro rfl
      refine ⟨.none (by kernel_rfl), ?_⟩
      refine m_nil ?_
      refine g_qb <| g_qn ?_
      refine g_alpush (l := P.map (fragP 3 32)) (X := fragP 3 32 (hd, x)) (by repeat' (first | exact Take.here | apply Take.there)) (by repeat' (first | exact Take.here | apply Take.there)) ?_
      have e1 : P.flatMap rowO ++ rowO (hd, x) = (P ++ [(hd, x)]).flatMap rowO := by simp
      have e2 : P.length + 1 = (P ++ [(hd, x)]).length := by simp
      have e3 : P.map (fragP 3 32) ++ [fragP 3 32 (hd, x)] = (P ++ [(hd, x)]).map (fragP 3 32) := by simp
      have e1' := e1
      unfold rowO at e1'
      rw [show [Value.string (strB x.1), .slice hd.1.1 x.2.1.length hd.1.2, .slice hd.2.1.1 x.2.2.1.length hd.2.1.2, .int .i64 x.2.2.2.1, .slice hd.2.2.1.1 x.2.2.2.2.1.length hd.2.2.1.2, .slice hd.2.2.2.1 x.2.2.2.2.2.length hd.2.2.2.2] = rowO (hd, x) from rfl, e1, e2, e3]
      exact g_nextA (P ++ [(hd, x)], (a26, c26), x, t') ⟨by dsimp only; rw [List.map_append]; exact hI', fun h => by dsimp only; have := hp' h; rw [List.length_append, List.length_singleton]; omega⟩ (by
        dsimp only
        rw [if_pos ht0]
        split
        · rename_i h; have := hp' h; omega
        · omega)
end Go.Proofs.YtcnfcoojmbjdlaaGreatDoor
/- Chapter 26: the document's check: its small functions. Conditions: none. -/
namespace Go.Z.Asm
set_option maxRecDepth 8000
set_option linter.unusedVariables false
set_option linter.unusedSimpArgs false
set_option linter.unusedSectionVars false
open Go Go.Z Go.Lib
theorem strB_at (s : List UInt8) {k : Nat} (hk : k < s.length) : (strB s).data.toList[(k : Int).toNat]? = some s[k] := by
  show s[(k : Int).toNat]? = _
  rw [Int.toNat_natCast, List.getElem?_eq_getElem hk]
theorem take_char {s : List UInt8} {k : Nat} {f : UInt8 → Bool} (hk : k < s.length) (h : (s.take k).all f = true) : (f s[k] = true → (s.take (k + 1)).all f = true) ∧ (f s[k] = false → s.all f = false) := by
  constructor
  · intro e
    rw [List.take_add_one, List.getElem?_eq_getElem hk, Option.toList_some, List.all_append, h]; simpa using e
  · intro e
    rw [List.all_eq_false]
    exact ⟨s[k], List.getElem_mem hk, by rw [e]; decide⟩
theorem take_int {s : List Int} {k : Nat} {f : Int → Bool} (hk : k < s.length) (h : (s.take k).all f = true) : (f s[k] = true → (s.take (k + 1)).all f = true) ∧ (f s[k] = false → s.all f = false) := by
  constructor
  · intro e
    rw [List.take_add_one, List.getElem?_eq_getElem hk, Option.toList_some, List.all_append, h]; simpa using e
  · intro e
    rw [List.all_eq_false]
    exact ⟨s[k], List.getElem_mem hk, by rw [e]; decide⟩
end Go.Z.Asm
namespace Go.Proofs.YtcnfcoojmbjdlaaGreatDoor
set_option maxRecDepth 8000
set_option linter.unusedVariables false
set_option linter.unusedSimpArgs false
set_option linter.unusedSectionVars false
open Go Go.Z Go.Z.Asm

theorem rname_ok {ρ : Nat → Obj → Prop} (s : List UInt8) (hs : s.length ≤ 9223372036854775807) : Con Tryz.prog ρ 64 #[.string (strB s)] [] (fun v H => v = .bool (titleP s) ∧ H = []) := by
  have hsz : (strB s).size = s.length := rfl
  have hnil : strB s = ⟨#[]⟩ ↔ s = [] := strB_inj (b := [])
  have hT : ¬ s = [] → s.length ≤ 40 → titleP s = s.all charP := fun h1 h2 => by unfold titleP; rw [decide_eq_true h1, decide_eq_true h2]; simp
  have hF1 : s = [] → titleP s = false := fun h => by unfold titleP; rw [decide_eq_false (fun h' => h' h)]; rfl
  have hF2 : ¬ s.length ≤ 40 → titleP s = false := fun h => by unfold titleP; rw [decide_eq_false h]; simp
  refine con_intro Tryz.func64 Tryz.call64 rfl Tryz.ntmps64 rfl (L := [(0, _)]) rfl fun w hh => ?_
  refine g_seq <| g_region ?_
  refine g_pure (p_assign rfl) rfl ?_
  refine g_nil <| g_qt <| g_seq ?_
  refine g_join (fun _ : Unit => [(0, .string (strB s))]) (fun _ => []) (fun _ => ¬ s = [] ∧ s.length ≤ 40) ?_ ?_
  · refine g_seq <| g_region ?_
    refine g_pure (p_move rfl) rfl ?_
    refine g_pure (p_eqls (i := strB s) (j := ⟨#[]⟩) (by rfl) rfl rfl) rfl ?_
    refine g_pure (p_move rfl) rfl ?_
    refine g_splitd rfl rfl (fun h1 => ?_) (fun h1 => ?_)
    · refine g_no rfl rfl rfl rfl ?_
      refine g_no rfl rfl rfl rfl ?_
      refine g_no rfl rfl rfl rfl ?_
      first | refine g_pure (p_pickt rfl rfl) rfl ?_ | refine g_pure (p_pickf rfl rfl) rfl ?_
      refine g_nil <| g_qt ?_
      refine g_ift rfl ?_
      refine g_seq <| g_region ?_
      refine g_pure (p_assign rfl) rfl ?_
      refine g_nil <| g_qt <| g_ret <| g_qn_ret <| g_qt_ret ?_
      first | exact g_postA (rs := [.tmp 2]) rfl (.tmp rfl .nil) ⟨by rw [hF1 (hnil.1 (by assumption))]; rfl, rfl⟩ | exact g_postA (rs := [.tmp 2]) rfl (.tmp rfl .nil) ⟨by rw [hF2 (by omega)]; rfl, rfl⟩
    · refine g_yes rfl rfl ?_
      refine g_pure (p_move rfl) rfl ?_
      refine g_yes rfl rfl ?_
      refine g_pure (p_lens (by rfl) rfl) rfl ?_
      refine g_yes rfl rfl ?_
      refine g_pure (p_gtr rfl rfl) rfl ?_
      first | refine g_pure (p_pickt rfl rfl) rfl ?_ | refine g_pure (p_pickf rfl rfl) rfl ?_
      refine g_nil <| g_qt ?_
      refine g_ifdL rfl (fun h3 => ?_) (fun h3 => ?_)
      · refine g_seq <| g_region ?_
        refine g_pure (p_assign rfl) rfl ?_
        refine g_nil <| g_qt <| g_ret <| g_qn_ret <| g_qt_ret ?_
        first | exact g_postA (rs := [.tmp 2]) rfl (.tmp rfl .nil) ⟨by rw [hF1 (hnil.1 (by assumption))]; rfl, rfl⟩ | exact g_postA (rs := [.tmp 2]) rfl (.tmp rfl .nil) ⟨by rw [hF2 (by omega)]; rfl, rfl⟩
      · refine g_skip <| g_qn ?_
        exact g_joinedA () ⟨fun e => by have := hnil.2 e; contradiction, by omega⟩
  rintro _ ⟨h1, h2⟩
  refine g_qt ?_
  rw [hT h1 h2]
  refine g_seq <| g_seq <| g_region ?_
  refine g_pure (p_assign rfl) rfl ?_
  refine g_nil <| g_qt <| g_block ?_
  refine g_loop (fun k : Nat => [(0, .string (strB s)), (3, .int .i64 k)]) (fun _ => []) (fun k => k ≤ s.length ∧ (s.take k).all charP = true) (fun k => s.length - k) 0 ⟨Nat.zero_le _, rfl⟩ (by (repeat (first | exact trivial | refine ⟨by rfl, ?_⟩)); done) (by repeat' (first | exact Cover.nil | exact Take.here | apply Cover.cons | apply Take.there)) ?_
  rintro k ⟨hk1, hk2⟩
  refine g_seq <| g_seq <| g_region ?_
  refine g_pure (p_move rfl) rfl ?_
  refine g_pure (p_move rfl) rfl ?_
  refine g_pure (p_lens (by rfl) rfl) rfl ?_
  refine g_pure (p_lss rfl rfl) rfl ?_
  refine g_nil <| g_qt ?_
  refine g_ifd rfl (fun q => ?_) (fun q => ?_)
  · have hkl : k < s.length := by omega
    obtain ⟨t1, t2⟩ := take_char hkl hk2
    have hx := strB_at s hkl
    generalize s[k] = c at t1 t2 hx
    have cT : (decide (c.toNat = 95) || (decide (48 ≤ c.toNat ∧ c.toNat ≤ 57) || (decide (65 ≤ c.toNat ∧ c.toNat ≤ 90) || decide (97 ≤ c.toNat ∧ c.toNat ≤ 122)))) = charP c := rfl
    have c1 : c.toNat = 95 ∨ (48 ≤ c.toNat ∧ c.toNat ≤ 57) ∨ (65 ≤ c.toNat ∧ c.toNat ≤ 90) ∨ (97 ≤ c.toNat ∧ c.toNat ≤ 122) → charP c = true := fun h => by rw [← cT]; simp; exact h
    have c2 : ¬ (c.toNat = 95 ∨ (48 ≤ c.toNat ∧ c.toNat ≤ 57) ∨ (65 ≤ c.toNat ∧ c.toNat ≤ 90) ∨ (97 ≤ c.toNat ∧ c.toNat ≤ 122)) → charP c = false := fun h => by rw [← cT, ← Bool.not_eq_true]; simpa using h
    refine g_skip <| g_qt <| g_seq <| g_block <| g_seq <| g_region ?_
    refine g_pure (p_move rfl) rfl ?_
    refine g_pure (p_move rfl) rfl ?_
    refine g_pure (p_indexs (by rfl) rfl rfl (by omega) hx) rfl ?_
    refine g_pure (p_assign rfl) rfl ?_
    refine g_nil <| g_qt <| g_seq <| g_region ?_
    refine g_pure (p_move rfl) rfl ?_
    refine g_pure (p_geq rfl rfl) rfl ?_
    refine g_pure (p_move rfl) rfl ?_
    refine g_splitd rfl rfl (fun h1 => ?_) (fun h1 => ?_)
    · refine g_yes rfl rfl ?_
      refine g_pure (p_move rfl) rfl ?_
      refine g_yes rfl rfl ?_
      refine g_pure (p_leq rfl rfl) rfl ?_
      first | refine g_pure (p_pickt rfl rfl) rfl ?_ | refine g_pure (p_pickf rfl rfl) rfl ?_
      refine g_pure (p_move rfl) rfl ?_
      refine g_splitd rfl rfl (fun h2 => ?_) (fun h2 => ?_)
      · refine g_no rfl rfl rfl rfl ?_
        refine g_no rfl rfl rfl rfl ?_
        refine g_no rfl rfl rfl rfl ?_
        refine g_nou rfl rfl rfl ?_
        refine g_nou rfl rfl rfl ?_
        refine g_no rfl rfl rfl rfl ?_
        first | refine g_pure (p_pickt rfl rfl) rfl ?_ | refine g_pure (p_pickf rfl rfl) rfl ?_
        refine g_pure (p_move rfl) rfl ?_
        refine g_no rfl rfl rfl rfl ?_
        refine g_no rfl rfl rfl rfl ?_
        refine g_no rfl rfl rfl rfl ?_
        refine g_nou rfl rfl rfl ?_
        refine g_nou rfl rfl rfl ?_
        refine g_no rfl rfl rfl rfl ?_
        first | refine g_pure (p_pickt rfl rfl) rfl ?_ | refine g_pure (p_pickf rfl rfl) rfl ?_
        refine g_pure (p_move rfl) rfl ?_
        refine g_no rfl rfl rfl rfl ?_
        refine g_no rfl rfl rfl rfl ?_
        first | refine g_pure (p_pickt rfl rfl) rfl ?_ | refine g_pure (p_pickf rfl rfl) rfl ?_
        refine g_pure (p_not rfl) rfl ?_
        refine g_nil <| g_qt ?_
        refine g_iff rfl ?_
        refine g_skip <| g_qb <| g_qt <| g_region ?_
        refine g_pure (p_move rfl) rfl ?_
        first | refine g_pure (p_addi rfl rfl (by omega)) rfl ?_ | refine g_pure (p_add rfl rfl) rfl ?_
        refine g_pure (p_assign rfl) rfl ?_
        refine g_nil <| g_qn ?_
        exact g_nextA (k + 1) ⟨hkl, t1 (c1 (by omega))⟩ (by omega)
      · refine g_yes rfl rfl ?_
        refine g_pure (p_move rfl) rfl ?_
        refine g_yes rfl rfl ?_
        refine g_pure (p_geq rfl rfl) rfl ?_
        refine g_yes rfl rfl ?_
        refine g_pure (p_move rfl) rfl ?_
        refine g_splitd rfl rfl (fun h8 => ?_) (fun h8 => ?_)
        · refine g_yes rfl rfl ?_
          refine g_pure (p_move rfl) rfl ?_
          refine g_yes rfl rfl ?_
          refine g_pure (p_leq rfl rfl) rfl ?_
          refine g_yes rfl rfl ?_
          first | refine g_pure (p_pickt rfl rfl) rfl ?_ | refine g_pure (p_pickf rfl rfl) rfl ?_
          first | refine g_pure (p_pickt rfl rfl) rfl ?_ | refine g_pure (p_pickf rfl rfl) rfl ?_
          refine g_pure (p_move rfl) rfl ?_
          refine g_splitd rfl rfl (fun h9 => ?_) (fun h9 => ?_)
          · refine g_no rfl rfl rfl rfl ?_
            refine g_no rfl rfl rfl rfl ?_
            refine g_no rfl rfl rfl rfl ?_
            refine g_nou rfl rfl rfl ?_
            refine g_nou rfl rfl rfl ?_
            refine g_no rfl rfl rfl rfl ?_
            first | refine g_pure (p_pickt rfl rfl) rfl ?_ | refine g_pure (p_pickf rfl rfl) rfl ?_
            refine g_pure (p_move rfl) rfl ?_
            refine g_no rfl rfl rfl rfl ?_
            refine g_no rfl rfl rfl rfl ?_
            first | refine g_pure (p_pickt rfl rfl) rfl ?_ | refine g_pure (p_pickf rfl rfl) rfl ?_
            refine g_pure (p_not rfl) rfl ?_
            refine g_nil <| g_qt ?_
            refine g_iff rfl ?_
            refine g_skip <| g_qb <| g_qt <| g_region ?_
            refine g_pure (p_move rfl) rfl ?_
            first | refine g_pure (p_addi rfl rfl (by omega)) rfl ?_ | refine g_pure (p_add rfl rfl) rfl ?_
            refine g_pure (p_assign rfl) rfl ?_
            refine g_nil <| g_qn ?_
            exact g_nextA (k + 1) ⟨hkl, t1 (c1 (by omega))⟩ (by omega)
          · refine g_yes rfl rfl ?_
            refine g_pure (p_move rfl) rfl ?_
            refine g_yes rfl rfl ?_
            refine g_pure (p_geq rfl rfl) rfl ?_
            refine g_yes rfl rfl ?_
            refine g_pure (p_move rfl) rfl ?_
            refine g_splitd rfl rfl (fun h13 => ?_) (fun h13 => ?_)
            · refine g_yes rfl rfl ?_
              refine g_pure (p_move rfl) rfl ?_
              refine g_yes rfl rfl ?_
              refine g_pure (p_leq rfl rfl) rfl ?_
              refine g_yes rfl rfl ?_
              first | refine g_pure (p_pickt rfl rfl) rfl ?_ | refine g_pure (p_pickf rfl rfl) rfl ?_
              first | refine g_pure (p_pickt rfl rfl) rfl ?_ | refine g_pure (p_pickf rfl rfl) rfl ?_
              refine g_pure (p_move rfl) rfl ?_
              refine g_splitd rfl rfl (fun h14 => ?_) (fun h14 => ?_)
              · refine g_no rfl rfl rfl rfl ?_
                refine g_no rfl rfl rfl rfl ?_
                first | refine g_pure (p_pickt rfl rfl) rfl ?_ | refine g_pure (p_pickf rfl rfl) rfl ?_
                refine g_pure (p_not rfl) rfl ?_
                refine g_nil <| g_qt ?_
                refine g_iff rfl ?_
                refine g_skip <| g_qb <| g_qt <| g_region ?_
                refine g_pure (p_move rfl) rfl ?_
                first | refine g_pure (p_addi rfl rfl (by omega)) rfl ?_ | refine g_pure (p_add rfl rfl) rfl ?_
                refine g_pure (p_assign rfl) rfl ?_
                refine g_nil <| g_qn ?_
                exact g_nextA (k + 1) ⟨hkl, t1 (c1 (by omega))⟩ (by omega)
              · refine g_yes rfl rfl ?_
                refine g_pure (p_move rfl) rfl ?_
                refine g_yes rfl rfl ?_
                refine g_pure (p_eql rfl rfl) rfl ?_
                first | refine g_pure (p_pickt rfl rfl) rfl ?_ | refine g_pure (p_pickf rfl rfl) rfl ?_
                refine g_pure (p_not rfl) rfl ?_
                refine g_nil <| g_qt ?_
                refine g_ifndL rfl (fun h16 => ?_) (fun h16 => ?_)
                · refine g_seq <| g_region ?_
                  refine g_pure (p_assign rfl) rfl ?_
                  refine g_nil <| g_qt <| g_ret <| g_qb_ret <| g_qt_ret <| g_qn_ret <| g_qb_ret <| g_qt_ret ?_
                  exact g_postA (rs := [.tmp 2]) rfl (.tmp rfl .nil) ⟨by rw [t2 (c2 (by omega))]; rfl, rfl⟩
                · refine g_skip <| g_qb <| g_qt <| g_region ?_
                  refine g_pure (p_move rfl) rfl ?_
                  first | refine g_pure (p_addi rfl rfl (by omega)) rfl ?_ | refine g_pure (p_add rfl rfl) rfl ?_
                  refine g_pure (p_assign rfl) rfl ?_
                  refine g_nil <| g_qn ?_
                  exact g_nextA (k + 1) ⟨hkl, t1 (c1 (by omega))⟩ (by omega)
            · refine g_no rfl rfl rfl rfl ?_
              refine g_no rfl rfl rfl rfl ?_
              refine g_yes rfl rfl ?_
              first | refine g_pure (p_pickt rfl rfl) rfl ?_ | refine g_pure (p_pickf rfl rfl) rfl ?_
              first | refine g_pure (p_pickt rfl rfl) rfl ?_ | refine g_pure (p_pickf rfl rfl) rfl ?_
              refine g_pure (p_move rfl) rfl ?_
              refine g_yes rfl rfl ?_
              refine g_pure (p_move rfl) rfl ?_
              refine g_yes rfl rfl ?_
              refine g_pure (p_eql rfl rfl) rfl ?_
              first | refine g_pure (p_pickt rfl rfl) rfl ?_ | refine g_pure (p_pickf rfl rfl) rfl ?_
              refine g_pure (p_not rfl) rfl ?_
              refine g_nil <| g_qt ?_
              refine g_ifndL rfl (fun h18 => ?_) (fun h18 => ?_)
              · refine g_seq <| g_region ?_
                refine g_pure (p_assign rfl) rfl ?_
                refine g_nil <| g_qt <| g_ret <| g_qb_ret <| g_qt_ret <| g_qn_ret <| g_qb_ret <| g_qt_ret ?_
                exact g_postA (rs := [.tmp 2]) rfl (.tmp rfl .nil) ⟨by rw [t2 (c2 (by omega))]; rfl, rfl⟩
              · refine g_skip <| g_qb <| g_qt <| g_region ?_
                refine g_pure (p_move rfl) rfl ?_
                first | refine g_pure (p_addi rfl rfl (by omega)) rfl ?_ | refine g_pure (p_add rfl rfl) rfl ?_
                refine g_pure (p_assign rfl) rfl ?_
                refine g_nil <| g_qn ?_
                exact g_nextA (k + 1) ⟨hkl, t1 (c1 (by omega))⟩ (by omega)
        · refine g_no rfl rfl rfl rfl ?_
          refine g_no rfl rfl rfl rfl ?_
          refine g_yes rfl rfl ?_
          first | refine g_pure (p_pickt rfl rfl) rfl ?_ | refine g_pure (p_pickf rfl rfl) rfl ?_
          first | refine g_pure (p_pickt rfl rfl) rfl ?_ | refine g_pure (p_pickf rfl rfl) rfl ?_
          refine g_pure (p_move rfl) rfl ?_
          refine g_yes rfl rfl ?_
          refine g_pure (p_move rfl) rfl ?_
          refine g_yes rfl rfl ?_
          refine g_pure (p_geq rfl rfl) rfl ?_
          refine g_yes rfl rfl ?_
          refine g_pure (p_move rfl) rfl ?_
          refine g_splitd rfl rfl (fun h20 => ?_) (fun h20 => ?_)
          · refine g_yes rfl rfl ?_
            refine g_pure (p_move rfl) rfl ?_
            refine g_yes rfl rfl ?_
            refine g_pure (p_leq rfl rfl) rfl ?_
            refine g_yes rfl rfl ?_
            first | refine g_pure (p_pickt rfl rfl) rfl ?_ | refine g_pure (p_pickf rfl rfl) rfl ?_
            first | refine g_pure (p_pickt rfl rfl) rfl ?_ | refine g_pure (p_pickf rfl rfl) rfl ?_
            refine g_pure (p_move rfl) rfl ?_
            refine g_splitd rfl rfl (fun h21 => ?_) (fun h21 => ?_)
            · refine g_no rfl rfl rfl rfl ?_
              refine g_no rfl rfl rfl rfl ?_
              first | refine g_pure (p_pickt rfl rfl) rfl ?_ | refine g_pure (p_pickf rfl rfl) rfl ?_
              refine g_pure (p_not rfl) rfl ?_
              refine g_nil <| g_qt ?_
              refine g_iff rfl ?_
              refine g_skip <| g_qb <| g_qt <| g_region ?_
              refine g_pure (p_move rfl) rfl ?_
              first | refine g_pure (p_addi rfl rfl (by omega)) rfl ?_ | refine g_pure (p_add rfl rfl) rfl ?_
              refine g_pure (p_assign rfl) rfl ?_
              refine g_nil <| g_qn ?_
              exact g_nextA (k + 1) ⟨hkl, t1 (c1 (by omega))⟩ (by omega)
            · refine g_yes rfl rfl ?_
              refine g_pure (p_move rfl) rfl ?_
              refine g_yes rfl rfl ?_
              refine g_pure (p_eql rfl rfl) rfl ?_
              first | refine g_pure (p_pickt rfl rfl) rfl ?_ | refine g_pure (p_pickf rfl rfl) rfl ?_
              refine g_pure (p_not rfl) rfl ?_
              refine g_nil <| g_qt ?_
              refine g_ifndL rfl (fun h23 => ?_) (fun h23 => ?_)
              · refine g_seq <| g_region ?_
                refine g_pure (p_assign rfl) rfl ?_
                refine g_nil <| g_qt <| g_ret <| g_qb_ret <| g_qt_ret <| g_qn_ret <| g_qb_ret <| g_qt_ret ?_
                exact g_postA (rs := [.tmp 2]) rfl (.tmp rfl .nil) ⟨by rw [t2 (c2 (by omega))]; rfl, rfl⟩
              · refine g_skip <| g_qb <| g_qt <| g_region ?_
                refine g_pure (p_move rfl) rfl ?_
                first | refine g_pure (p_addi rfl rfl (by omega)) rfl ?_ | refine g_pure (p_add rfl rfl) rfl ?_
                refine g_pure (p_assign rfl) rfl ?_
                refine g_nil <| g_qn ?_
                exact g_nextA (k + 1) ⟨hkl, t1 (c1 (by omega))⟩ (by omega)
          · refine g_no rfl rfl rfl rfl ?_
            refine g_no rfl rfl rfl rfl ?_
            refine g_yes rfl rfl ?_
            first | refine g_pure (p_pickt rfl rfl) rfl ?_ | refine g_pure (p_pickf rfl rfl) rfl ?_
            first | refine g_pure (p_pickt rfl rfl) rfl ?_ | refine g_pure (p_pickf rfl rfl) rfl ?_
            refine g_pure (p_move rfl) rfl ?_
            refine g_yes rfl rfl ?_
            refine g_pure (p_move rfl) rfl ?_
            refine g_yes rfl rfl ?_
            refine g_pure (p_eql rfl rfl) rfl ?_
            first | refine g_pure (p_pickt rfl rfl) rfl ?_ | refine g_pure (p_pickf rfl rfl) rfl ?_
            refine g_pure (p_not rfl) rfl ?_
            refine g_nil <| g_qt ?_
            refine g_ifndL rfl (fun h25 => ?_) (fun h25 => ?_)
            · refine g_seq <| g_region ?_
              refine g_pure (p_assign rfl) rfl ?_
              refine g_nil <| g_qt <| g_ret <| g_qb_ret <| g_qt_ret <| g_qn_ret <| g_qb_ret <| g_qt_ret ?_
              exact g_postA (rs := [.tmp 2]) rfl (.tmp rfl .nil) ⟨by rw [t2 (c2 (by omega))]; rfl, rfl⟩
            · refine g_skip <| g_qb <| g_qt <| g_region ?_
              refine g_pure (p_move rfl) rfl ?_
              first | refine g_pure (p_addi rfl rfl (by omega)) rfl ?_ | refine g_pure (p_add rfl rfl) rfl ?_
              refine g_pure (p_assign rfl) rfl ?_
              refine g_nil <| g_qn ?_
              exact g_nextA (k + 1) ⟨hkl, t1 (c1 (by omega))⟩ (by omega)
    · refine g_no rfl rfl rfl rfl ?_
      refine g_no rfl rfl rfl rfl ?_
      first | refine g_pure (p_pickt rfl rfl) rfl ?_ | refine g_pure (p_pickf rfl rfl) rfl ?_
      refine g_pure (p_move rfl) rfl ?_
      refine g_yes rfl rfl ?_
      refine g_pure (p_move rfl) rfl ?_
      refine g_yes rfl rfl ?_
      refine g_pure (p_geq rfl rfl) rfl ?_
      refine g_yes rfl rfl ?_
      refine g_pure (p_move rfl) rfl ?_
      refine g_splitd rfl rfl (fun h27 => ?_) (fun h27 => ?_)
      · refine g_yes rfl rfl ?_
        refine g_pure (p_move rfl) rfl ?_
        refine g_yes rfl rfl ?_
        refine g_pure (p_leq rfl rfl) rfl ?_
        refine g_yes rfl rfl ?_
        first | refine g_pure (p_pickt rfl rfl) rfl ?_ | refine g_pure (p_pickf rfl rfl) rfl ?_
        first | refine g_pure (p_pickt rfl rfl) rfl ?_ | refine g_pure (p_pickf rfl rfl) rfl ?_
        refine g_pure (p_move rfl) rfl ?_
        refine g_splitd rfl rfl (fun h28 => ?_) (fun h28 => ?_)
        · refine g_no rfl rfl rfl rfl ?_
          refine g_no rfl rfl rfl rfl ?_
          refine g_no rfl rfl rfl rfl ?_
          refine g_nou rfl rfl rfl ?_
          refine g_nou rfl rfl rfl ?_
          refine g_no rfl rfl rfl rfl ?_
          first | refine g_pure (p_pickt rfl rfl) rfl ?_ | refine g_pure (p_pickf rfl rfl) rfl ?_
          refine g_pure (p_move rfl) rfl ?_
          refine g_no rfl rfl rfl rfl ?_
          refine g_no rfl rfl rfl rfl ?_
          first | refine g_pure (p_pickt rfl rfl) rfl ?_ | refine g_pure (p_pickf rfl rfl) rfl ?_
          refine g_pure (p_not rfl) rfl ?_
          refine g_nil <| g_qt ?_
          refine g_iff rfl ?_
          refine g_skip <| g_qb <| g_qt <| g_region ?_
          refine g_pure (p_move rfl) rfl ?_
          first | refine g_pure (p_addi rfl rfl (by omega)) rfl ?_ | refine g_pure (p_add rfl rfl) rfl ?_
          refine g_pure (p_assign rfl) rfl ?_
          refine g_nil <| g_qn ?_
          exact g_nextA (k + 1) ⟨hkl, t1 (c1 (by omega))⟩ (by omega)
        · refine g_yes rfl rfl ?_
          refine g_pure (p_move rfl) rfl ?_
          refine g_yes rfl rfl ?_
          refine g_pure (p_geq rfl rfl) rfl ?_
          refine g_yes rfl rfl ?_
          refine g_pure (p_move rfl) rfl ?_
          refine g_splitd rfl rfl (fun h32 => ?_) (fun h32 => ?_)
          · refine g_yes rfl rfl ?_
            refine g_pure (p_move rfl) rfl ?_
            refine g_yes rfl rfl ?_
            refine g_pure (p_leq rfl rfl) rfl ?_
            refine g_yes rfl rfl ?_
            first | refine g_pure (p_pickt rfl rfl) rfl ?_ | refine g_pure (p_pickf rfl rfl) rfl ?_
            first | refine g_pure (p_pickt rfl rfl) rfl ?_ | refine g_pure (p_pickf rfl rfl) rfl ?_
            refine g_pure (p_move rfl) rfl ?_
            refine g_splitd rfl rfl (fun h33 => ?_) (fun h33 => ?_)
            · refine g_no rfl rfl rfl rfl ?_
              refine g_no rfl rfl rfl rfl ?_
              first | refine g_pure (p_pickt rfl rfl) rfl ?_ | refine g_pure (p_pickf rfl rfl) rfl ?_
              refine g_pure (p_not rfl) rfl ?_
              refine g_nil <| g_qt ?_
              refine g_iff rfl ?_
              refine g_skip <| g_qb <| g_qt <| g_region ?_
              refine g_pure (p_move rfl) rfl ?_
              first | refine g_pure (p_addi rfl rfl (by omega)) rfl ?_ | refine g_pure (p_add rfl rfl) rfl ?_
              refine g_pure (p_assign rfl) rfl ?_
              refine g_nil <| g_qn ?_
              exact g_nextA (k + 1) ⟨hkl, t1 (c1 (by omega))⟩ (by omega)
            · refine g_yes rfl rfl ?_
              refine g_pure (p_move rfl) rfl ?_
              refine g_yes rfl rfl ?_
              refine g_pure (p_eql rfl rfl) rfl ?_
              first | refine g_pure (p_pickt rfl rfl) rfl ?_ | refine g_pure (p_pickf rfl rfl) rfl ?_
              refine g_pure (p_not rfl) rfl ?_
              refine g_nil <| g_qt ?_
              refine g_ifndL rfl (fun h35 => ?_) (fun h35 => ?_)
              · refine g_seq <| g_region ?_
                refine g_pure (p_assign rfl) rfl ?_
                refine g_nil <| g_qt <| g_ret <| g_qb_ret <| g_qt_ret <| g_qn_ret <| g_qb_ret <| g_qt_ret ?_
                exact g_postA (rs := [.tmp 2]) rfl (.tmp rfl .nil) ⟨by rw [t2 (c2 (by omega))]; rfl, rfl⟩
              · refine g_skip <| g_qb <| g_qt <| g_region ?_
                refine g_pure (p_move rfl) rfl ?_
                first | refine g_pure (p_addi rfl rfl (by omega)) rfl ?_ | refine g_pure (p_add rfl rfl) rfl ?_
                refine g_pure (p_assign rfl) rfl ?_
                refine g_nil <| g_qn ?_
                exact g_nextA (k + 1) ⟨hkl, t1 (c1 (by omega))⟩ (by omega)
          · refine g_no rfl rfl rfl rfl ?_
            refine g_no rfl rfl rfl rfl ?_
            refine g_yes rfl rfl ?_
            first | refine g_pure (p_pickt rfl rfl) rfl ?_ | refine g_pure (p_pickf rfl rfl) rfl ?_
            first | refine g_pure (p_pickt rfl rfl) rfl ?_ | refine g_pure (p_pickf rfl rfl) rfl ?_
            refine g_pure (p_move rfl) rfl ?_
            refine g_yes rfl rfl ?_
            refine g_pure (p_move rfl) rfl ?_
            refine g_yes rfl rfl ?_
            refine g_pure (p_eql rfl rfl) rfl ?_
            first | refine g_pure (p_pickt rfl rfl) rfl ?_ | refine g_pure (p_pickf rfl rfl) rfl ?_
            refine g_pure (p_not rfl) rfl ?_
            refine g_nil <| g_qt ?_
            refine g_ifndL rfl (fun h37 => ?_) (fun h37 => ?_)
            · refine g_seq <| g_region ?_
              refine g_pure (p_assign rfl) rfl ?_
              refine g_nil <| g_qt <| g_ret <| g_qb_ret <| g_qt_ret <| g_qn_ret <| g_qb_ret <| g_qt_ret ?_
              exact g_postA (rs := [.tmp 2]) rfl (.tmp rfl .nil) ⟨by rw [t2 (c2 (by omega))]; rfl, rfl⟩
            · refine g_skip <| g_qb <| g_qt <| g_region ?_
              refine g_pure (p_move rfl) rfl ?_
              first | refine g_pure (p_addi rfl rfl (by omega)) rfl ?_ | refine g_pure (p_add rfl rfl) rfl ?_
              refine g_pure (p_assign rfl) rfl ?_
              refine g_nil <| g_qn ?_
              exact g_nextA (k + 1) ⟨hkl, t1 (c1 (by omega))⟩ (by omega)
      · refine g_no rfl rfl rfl rfl ?_
        refine g_no rfl rfl rfl rfl ?_
        refine g_yes rfl rfl ?_
        first | refine g_pure (p_pickt rfl rfl) rfl ?_ | refine g_pure (p_pickf rfl rfl) rfl ?_
        first | refine g_pure (p_pickt rfl rfl) rfl ?_ | refine g_pure (p_pickf rfl rfl) rfl ?_
        refine g_pure (p_move rfl) rfl ?_
        refine g_yes rfl rfl ?_
        refine g_pure (p_move rfl) rfl ?_
        refine g_yes rfl rfl ?_
        refine g_pure (p_geq rfl rfl) rfl ?_
        refine g_yes rfl rfl ?_
        refine g_pure (p_move rfl) rfl ?_
        refine g_splitd rfl rfl (fun h39 => ?_) (fun h39 => ?_)
        · refine g_yes rfl rfl ?_
          refine g_pure (p_move rfl) rfl ?_
          refine g_yes rfl rfl ?_
          refine g_pure (p_leq rfl rfl) rfl ?_
          refine g_yes rfl rfl ?_
          first | refine g_pure (p_pickt rfl rfl) rfl ?_ | refine g_pure (p_pickf rfl rfl) rfl ?_
          first | refine g_pure (p_pickt rfl rfl) rfl ?_ | refine g_pure (p_pickf rfl rfl) rfl ?_
          refine g_pure (p_move rfl) rfl ?_
          refine g_splitd rfl rfl (fun h40 => ?_) (fun h40 => ?_)
          · refine g_no rfl rfl rfl rfl ?_
            refine g_no rfl rfl rfl rfl ?_
            first | refine g_pure (p_pickt rfl rfl) rfl ?_ | refine g_pure (p_pickf rfl rfl) rfl ?_
            refine g_pure (p_not rfl) rfl ?_
            refine g_nil <| g_qt ?_
            refine g_iff rfl ?_
            refine g_skip <| g_qb <| g_qt <| g_region ?_
            refine g_pure (p_move rfl) rfl ?_
            first | refine g_pure (p_addi rfl rfl (by omega)) rfl ?_ | refine g_pure (p_add rfl rfl) rfl ?_
            refine g_pure (p_assign rfl) rfl ?_
            refine g_nil <| g_qn ?_
            exact g_nextA (k + 1) ⟨hkl, t1 (c1 (by omega))⟩ (by omega)
          · refine g_yes rfl rfl ?_
            refine g_pure (p_move rfl) rfl ?_
            refine g_yes rfl rfl ?_
            refine g_pure (p_eql rfl rfl) rfl ?_
            first | refine g_pure (p_pickt rfl rfl) rfl ?_ | refine g_pure (p_pickf rfl rfl) rfl ?_
            refine g_pure (p_not rfl) rfl ?_
            refine g_nil <| g_qt ?_
            refine g_ifndL rfl (fun h42 => ?_) (fun h42 => ?_)
            · refine g_seq <| g_region ?_
              refine g_pure (p_assign rfl) rfl ?_
              refine g_nil <| g_qt <| g_ret <| g_qb_ret <| g_qt_ret <| g_qn_ret <| g_qb_ret <| g_qt_ret ?_
              exact g_postA (rs := [.tmp 2]) rfl (.tmp rfl .nil) ⟨by rw [t2 (c2 (by omega))]; rfl, rfl⟩
            · refine g_skip <| g_qb <| g_qt <| g_region ?_
              refine g_pure (p_move rfl) rfl ?_
              first | refine g_pure (p_addi rfl rfl (by omega)) rfl ?_ | refine g_pure (p_add rfl rfl) rfl ?_
              refine g_pure (p_assign rfl) rfl ?_
              refine g_nil <| g_qn ?_
              exact g_nextA (k + 1) ⟨hkl, t1 (c1 (by omega))⟩ (by omega)
        · refine g_no rfl rfl rfl rfl ?_
          refine g_no rfl rfl rfl rfl ?_
          refine g_yes rfl rfl ?_
          first | refine g_pure (p_pickt rfl rfl) rfl ?_ | refine g_pure (p_pickf rfl rfl) rfl ?_
          first | refine g_pure (p_pickt rfl rfl) rfl ?_ | refine g_pure (p_pickf rfl rfl) rfl ?_
          refine g_pure (p_move rfl) rfl ?_
          refine g_yes rfl rfl ?_
          refine g_pure (p_move rfl) rfl ?_
          refine g_yes rfl rfl ?_
          refine g_pure (p_eql rfl rfl) rfl ?_
          first | refine g_pure (p_pickt rfl rfl) rfl ?_ | refine g_pure (p_pickf rfl rfl) rfl ?_
          refine g_pure (p_not rfl) rfl ?_
          refine g_nil <| g_qt ?_
          refine g_ifndL rfl (fun h44 => ?_) (fun h44 => ?_)
          · refine g_seq <| g_region ?_
            refine g_pure (p_assign rfl) rfl ?_
            refine g_nil <| g_qt <| g_ret <| g_qb_ret <| g_qt_ret <| g_qn_ret <| g_qb_ret <| g_qt_ret ?_
            exact g_postA (rs := [.tmp 2]) rfl (.tmp rfl .nil) ⟨by rw [t2 (c2 (by omega))]; rfl, rfl⟩
          · refine g_skip <| g_qb <| g_qt <| g_region ?_
            refine g_pure (p_move rfl) rfl ?_
            first | refine g_pure (p_addi rfl rfl (by omega)) rfl ?_ | refine g_pure (p_add rfl rfl) rfl ?_
            refine g_pure (p_assign rfl) rfl ?_
            refine g_nil <| g_qn ?_
            exact g_nextA (k + 1) ⟨hkl, t1 (c1 (by omega))⟩ (by omega)
  · rw [List.take_of_length_le (by omega)] at hk2
    refine g_exit <| g_qt_exit <| g_qn_exit <| g_qb_exit <| g_qt <| g_seq <| g_region ?_
    refine g_pure (p_assign rfl) rfl ?_
    refine g_nil <| g_qt <| g_ret ?_
    exact g_postA (rs := [.tmp 2]) rfl (.tmp rfl .nil) ⟨by rw [hk2]; rfl, rfl⟩

theorem rtyped_ok {ρ : Nat → Obj → Prop} (ea la : Option Addr) (ec lc n : Nat) (hn : n ≤ 17592186044416) (l : List Int) (h : RSl ρ 1 la l.length (l.map encI)) (hl : l.length ≤ 17592186044416) :
    Con Tryz.prog ρ 65 #[.slice ea n ec, .slice la l.length lc] [] (fun v H => v = .bool (l.all (typedB n)) ∧ H = []) := by
  obtain ⟨_, b1, o1, c1, T1, f1, hr1⟩ := h
  refine con_intro Tryz.func65 Tryz.call65 rfl Tryz.ntmps65 rfl (L := [(0, _), (1, _)]) rfl fun w hh => ?_
  refine g_seq <| g_region ?_
  refine g_pure (p_assign rfl) rfl ?_
  refine g_nil <| g_qt <| g_seq <| g_seq <| g_region ?_
  refine g_pure (p_assign rfl) rfl ?_
  refine g_nil <| g_qt <| g_block ?_
  refine g_loop (fun k : Nat => [(0, .slice ea n ec), (1, .slice la l.length lc), (5, .int .i64 k)]) (fun _ => []) (fun k => k ≤ l.length ∧ (l.take k).all (typedB n) = true) (fun k => l.length - k) 0 ⟨Nat.zero_le _, rfl⟩ (by (repeat (first | exact trivial | refine ⟨by rfl, ?_⟩)); done) (by repeat' (first | exact Cover.nil | exact Take.here | apply Cover.cons | apply Take.there)) ?_
  rintro k ⟨hk1, hk2⟩
  refine g_seq <| g_seq <| g_region ?_
  refine g_pure (p_move rfl) rfl ?_
  refine g_pure (p_move rfl) rfl ?_
  refine g_pure (p_len (by rfl) rfl) rfl ?_
  refine g_pure (p_lss rfl rfl) rfl ?_
  refine g_nil <| g_qt ?_
  refine g_ifd rfl (fun q => ?_) (fun q => ?_)
  · have hkl : k < l.length := by omega
    obtain ⟨t1, t2⟩ := take_int hkl hk2
    have hx : c1[o1 + (k : Int).toNat * 1]? = some (.int .i64 l[k]) := by
      rw [Int.toNat_natCast, Nat.mul_one]
      exact (hr1 (by omega)).2.2 k _ (by simp [List.getElem?_eq_getElem hkl, encI])
    generalize l[k] = x at t1 t2 hx
    have b1 : 1 ≤ x ∧ x < 3 + (n : Int) → typedB n x = true := fun h => decide_eq_true h
    have b2 : ¬ (1 ≤ x ∧ x < 3 + (n : Int)) → typedB n x = false := fun h => decide_eq_false h
    refine g_skip <| g_qt <| g_seq <| g_block <| g_seq <| g_region ?_
    refine g_pure (p_move rfl) rfl ?_
    refine g_pure (p_move rfl) rfl ?_
    refine g_pure (p_indexAddr rfl rfl (by omega) (fun _ => (hr1 (by omega)).1)) rfl ?_
    refine g_pure (p_load (by rfl) rfl (Has.ro (hr1 (by omega)).2.1) hx) rfl ?_
    refine g_pure (p_lss rfl rfl) rfl ?_
    refine g_pure (p_move rfl) rfl ?_
    refine g_splitd rfl rfl (fun h1 => ?_) (fun h1 => ?_)
    · refine g_no rfl rfl rfl rfl ?_
      refine g_no rfl rfl rfl rfl ?_
      refine g_no rfl rfl rfl rfl ?_
      refine g_no rfl rfl rfl rfl ?_
      refine g_no rfl rfl rfl rfl ?_
      refine g_no rfl rfl rfl rfl ?_
      refine g_no rfl rfl rfl rfl ?_
      refine g_no rfl rfl rfl rfl ?_
      first | refine g_pure (p_pickt rfl rfl) rfl ?_ | refine g_pure (p_pickf rfl rfl) rfl ?_
      refine g_nil <| g_qt ?_
      refine g_ift rfl ?_
      refine g_seq <| g_region ?_
      refine g_pure (p_assign rfl) rfl ?_
      refine g_nil <| g_qt <| g_ret <| g_qb_ret <| g_qt_ret <| g_qn_ret <| g_qb_ret <| g_qt_ret ?_
      exact g_postA (rs := [.tmp 4]) rfl (.tmp rfl .nil) ⟨by rw [t2 (b2 (by omega))]; rfl, rfl⟩
    · refine g_yes rfl rfl ?_
      refine g_pure (p_move rfl) rfl ?_
      refine g_yes rfl rfl ?_
      refine g_pure (p_move rfl) rfl ?_
      refine g_yes rfl rfl ?_
      refine g_pure (p_indexAddr rfl rfl (by omega) (fun _ => (hr1 (by omega)).1)) rfl ?_
      refine g_yes rfl rfl ?_
      refine g_pure (p_load (by rfl) rfl (Has.ro (hr1 (by omega)).2.1) hx) rfl ?_
      refine g_yes rfl rfl ?_
      refine g_pure (p_move rfl) rfl ?_
      refine g_yes rfl rfl ?_
      refine g_pure (p_len (by rfl) rfl) rfl ?_
      refine g_yes rfl rfl ?_
      first | refine g_pure (p_addi rfl rfl (by omega)) rfl ?_ | refine g_pure (p_add rfl rfl) rfl ?_
      refine g_yes rfl rfl ?_
      refine g_pure (p_geq rfl rfl) rfl ?_
      first | refine g_pure (p_pickt rfl rfl) rfl ?_ | refine g_pure (p_pickf rfl rfl) rfl ?_
      refine g_nil <| g_qt ?_
      refine g_ifdL rfl (fun h3 => ?_) (fun h3 => ?_)
      · refine g_seq <| g_region ?_
        refine g_pure (p_assign rfl) rfl ?_
        refine g_nil <| g_qt <| g_ret <| g_qb_ret <| g_qt_ret <| g_qn_ret <| g_qb_ret <| g_qt_ret ?_
        exact g_postA (rs := [.tmp 4]) rfl (.tmp rfl .nil) ⟨by rw [t2 (b2 (by omega))]; rfl, rfl⟩
      · refine g_skip <| g_qb <| g_qt <| g_region ?_
        refine g_pure (p_move rfl) rfl ?_
        first | refine g_pure (p_addi rfl rfl (by omega)) rfl ?_ | refine g_pure (p_add rfl rfl) rfl ?_
        refine g_pure (p_assign rfl) rfl ?_
        refine g_nil <| g_qn ?_
        exact g_nextA (k + 1) ⟨hkl, t1 (b1 (by omega))⟩ (by omega)
  · rw [List.take_of_length_le (by omega)] at hk2
    refine g_exit <| g_qt_exit <| g_qn_exit <| g_qb_exit <| g_qt <| g_seq <| g_region ?_
    refine g_pure (p_assign rfl) rfl ?_
    refine g_nil <| g_qt <| g_ret ?_
    exact g_postA (rs := [.tmp 4]) rfl (.tmp rfl .nil) ⟨by rw [hk2]; rfl, rfl⟩

theorem rwithin_ok {ρ : Nat → Obj → Prop} (x n m : Int) (hm : I64 m) : Con Tryz.prog ρ 86 #[.int .i64 x, .int .i64 n, .int .i64 m] [] (fun v H => v = .bool (decide (withinP x n m)) ∧ H = []) := by
  obtain ⟨hm1, hm2⟩ := hm
  have hw : withinP x n m ↔ 0 ≤ x ∧ x ≤ m ∧ n ≤ m - x := Iff.rfl
  refine con_intro Tryz.func86 Tryz.call86 rfl Tryz.ntmps86 rfl (L := [(0, _), (1, _), (2, _)]) rfl fun w hh => ?_
  refine g_seq <| g_region ?_
  refine g_pure (p_assign rfl) rfl ?_
  refine g_nil <| g_qt <| g_seq <| g_region ?_
  refine g_pure (p_move rfl) rfl ?_
  refine g_pure (p_geq rfl rfl) rfl ?_
  refine g_pure (p_move rfl) rfl ?_
  refine g_splitd rfl rfl (fun h1 => ?_) (fun h1 => ?_)
  · refine g_yes rfl rfl ?_
    refine g_pure (p_move rfl) rfl ?_
    refine g_yes rfl rfl ?_
    refine g_pure (p_move rfl) rfl ?_
    refine g_yes rfl rfl ?_
    refine g_pure (p_leq rfl rfl) rfl ?_
    first | refine g_pure (p_pickt rfl rfl) rfl ?_ | refine g_pure (p_pickf rfl rfl) rfl ?_
    refine g_pure (p_move rfl) rfl ?_
    refine g_splitd rfl rfl (fun h2 => ?_) (fun h2 => ?_)
    · refine g_yes rfl rfl ?_
      refine g_pure (p_move rfl) rfl ?_
      refine g_yes rfl rfl ?_
      refine g_pure (p_move rfl) rfl ?_
      refine g_yes rfl rfl ?_
      refine g_pure (p_move rfl) rfl ?_
      refine g_yes rfl rfl ?_
      first | refine g_pure (p_subi rfl rfl (by omega)) rfl ?_ | refine g_pure (p_sub rfl rfl) rfl ?_
      refine g_yes rfl rfl ?_
      refine g_pure (p_leq rfl rfl) rfl ?_
      first | refine g_pure (p_pickt rfl rfl) rfl ?_ | refine g_pure (p_pickf rfl rfl) rfl ?_
      refine g_pure (p_assign rfl) rfl ?_
      refine g_nil <| g_qt <| g_ret ?_
      first | exact g_postA (rs := [.tmp 6]) rfl (.tmp rfl .nil) ⟨show Value.bool false = _ by (rw [decide_eq_false (fun h => by have := hw.1 h; omega)]), rfl⟩ | exact g_postA (rs := [.tmp 6]) rfl (.tmp rfl .nil) ⟨show Value.bool (decide (n ≤ m - x)) = _ by (congr 1; exact decide_eq_decide.2 (by rw [hw]; omega)), rfl⟩
    · refine g_no rfl rfl rfl rfl ?_
      refine g_no rfl rfl rfl rfl ?_
      refine g_no rfl rfl rfl rfl ?_
      refine g_no rfl rfl rfl rfl ?_
      refine g_no rfl rfl rfl rfl ?_
      first | refine g_pure (p_pickt rfl rfl) rfl ?_ | refine g_pure (p_pickf rfl rfl) rfl ?_
      refine g_pure (p_assign rfl) rfl ?_
      refine g_nil <| g_qt <| g_ret ?_
      first | exact g_postA (rs := [.tmp 6]) rfl (.tmp rfl .nil) ⟨show Value.bool false = _ by (rw [decide_eq_false (fun h => by have := hw.1 h; omega)]), rfl⟩ | exact g_postA (rs := [.tmp 6]) rfl (.tmp rfl .nil) ⟨show Value.bool (decide (n ≤ m - x)) = _ by (congr 1; exact decide_eq_decide.2 (by rw [hw]; omega)), rfl⟩
  · refine g_no rfl rfl rfl rfl ?_
    refine g_no rfl rfl rfl rfl ?_
    refine g_no rfl rfl rfl rfl ?_
    first | refine g_pure (p_pickt rfl rfl) rfl ?_ | refine g_pure (p_pickf rfl rfl) rfl ?_
    refine g_pure (p_move rfl) rfl ?_
    refine g_no rfl rfl rfl rfl ?_
    refine g_no rfl rfl rfl rfl ?_
    refine g_no rfl rfl rfl rfl ?_
    refine g_no rfl rfl rfl rfl ?_
    refine g_no rfl rfl rfl rfl ?_
    first | refine g_pure (p_pickt rfl rfl) rfl ?_ | refine g_pure (p_pickf rfl rfl) rfl ?_
    refine g_pure (p_assign rfl) rfl ?_
    refine g_nil <| g_qt <| g_ret ?_
    first | exact g_postA (rs := [.tmp 6]) rfl (.tmp rfl .nil) ⟨show Value.bool false = _ by (rw [decide_eq_false (fun h => by have := hw.1 h; omega)]), rfl⟩ | exact g_postA (rs := [.tmp 6]) rfl (.tmp rfl .nil) ⟨show Value.bool (decide (n ≤ m - x)) = _ by (congr 1; exact decide_eq_decide.2 (by rw [hw]; omega)), rfl⟩

theorem rhas_ok {ρ : Nat → Obj → Prop} (s : List UInt8) (c : UInt8) (hs : s.length ≤ 100) : Con Tryz.prog ρ 85 #[.string (strB s), .int .u8 c.toNat] [] (fun v H => v = .bool (s.contains c) ∧ H = []) := by
  have hsz : (strB s).size = s.length := rfl
  refine con_intro Tryz.func85 Tryz.call85 rfl Tryz.ntmps85 rfl (L := [(0, _), (1, _)]) rfl fun w hh => ?_
  refine g_seq <| g_region ?_
  refine g_pure (p_assign rfl) rfl ?_
  refine g_nil <| g_qt <| g_seq <| g_seq <| g_region ?_
  refine g_pure (p_assign rfl) rfl ?_
  refine g_nil <| g_qt <| g_block ?_
  refine g_loop (fun k : Nat => [(0, .string (strB s)), (1, .int .u8 c.toNat), (5, .int .i64 k)]) (fun _ => []) (fun k => k ≤ s.length ∧ c ∉ s.take k) (fun k => s.length - k) 0 ⟨Nat.zero_le _, by simp⟩ (by (repeat (first | exact trivial | refine ⟨by rfl, ?_⟩)); done) (by repeat' (first | exact Cover.nil | exact Take.here | apply Cover.cons | apply Take.there)) ?_
  rintro k ⟨hk1, hk2⟩
  refine g_seq <| g_seq <| g_region ?_
  refine g_pure (p_move rfl) rfl ?_
  refine g_pure (p_move rfl) rfl ?_
  refine g_pure (p_lens (by rfl) rfl) rfl ?_
  refine g_pure (p_lss rfl rfl) rfl ?_
  refine g_nil <| g_qt ?_
  refine g_ifd rfl (fun q => ?_) (fun q => ?_)
  · have hkl : k < s.length := by omega
    obtain ⟨t1, t2⟩ := contains_take hkl hk2
    refine g_skip <| g_qt <| g_seq <| g_block <| g_seq <| g_region ?_
    refine g_pure (p_move rfl) rfl ?_
    refine g_pure (p_move rfl) rfl ?_
    refine g_pure (p_indexs (by rfl) rfl rfl (by omega) (strB_at s hkl)) rfl ?_
    refine g_pure (p_move rfl) rfl ?_
    refine g_pure (p_eql rfl rfl) rfl ?_
    refine g_nil <| g_qt ?_
    refine g_ifd rfl (fun h => ?_) (fun h => ?_)
    · have he : s[k] = c := UInt8.toNat_inj.1 (by omega)
      refine g_seq <| g_region ?_
      refine g_pure (p_assign rfl) rfl ?_
      refine g_nil <| g_qt <| g_ret <| g_qb_ret <| g_qt_ret <| g_qn_ret <| g_qb_ret <| g_qt_ret ?_
      exact g_postA (rs := [.tmp 4]) rfl (.tmp rfl .nil) ⟨by rw [t1 he]; rfl, rfl⟩
    · have he : s[k] ≠ c := fun e => h (by rw [e])
      refine g_skip <| g_qb <| g_qt <| g_region ?_
      refine g_pure (p_move rfl) rfl ?_
      first | refine g_pure (p_addi rfl rfl (by omega)) rfl ?_ | refine g_pure (p_add rfl rfl) rfl ?_
      refine g_pure (p_assign rfl) rfl ?_
      refine g_nil <| g_qn ?_
      exact g_nextA (k + 1) ⟨hkl, t2 he⟩ (by omega)
  · rw [List.take_of_length_le (by omega)] at hk2
    refine g_exit <| g_qt_exit <| g_qn_exit <| g_qb_exit <| g_qt <| g_seq <| g_region ?_
    refine g_pure (p_assign rfl) rfl ?_
    refine g_nil <| g_qt <| g_ret ?_
    exact g_postA (rs := [.tmp 4]) rfl (.tmp rfl .nil) ⟨by rw [List.contains_eq_mem, decide_eq_false hk2]; rfl, rfl⟩

theorem fieldsR_at {op : Int} (h : knownP op) : (fieldsRT.map fun l => Value.string (strB l))[0 + op.toNat * 1]? = some (.string (strB (fieldsR op))) := by
  unfold fieldsR
  rw [if_pos h]
  rcases op_cases h with rfl | rfl | rfl | rfl | rfl | rfl | rfl | rfl | rfl | rfl <;> rfl
theorem rfields_ok {ρ : Nat → Obj → Prop} (op : Int) : Con Tryz.prog ρ 46 #[.int .i64 op] [] (fun v H => v = .string (strB (fieldsR op)) ∧ H = []) := by
  have hN : ¬ knownP op → fieldsR op = [] := fun h => by unfold fieldsR; rw [if_neg h]
  have hk : knownP op ↔ 1 ≤ op ∧ op ≤ 10 := Iff.rfl
  refine con_intro Tryz.func46 Tryz.call46 rfl Tryz.ntmps46 rfl (L := [(0, _)]) rfl fun w hh => ?_
  refine g_seq <| g_region ?_
  refine g_pure (p_assign rfl) rfl ?_
  refine g_nil <| g_qt <| g_seq <| g_region ?_
  refine g_eff (e_bs (xs := [.const (.string (⟨#[]⟩)), .const (.string (⟨#[65, 66]⟩)), .const (.string (⟨#[65, 66]⟩)), .const (.string (⟨#[65, 66]⟩)), .const (.string (⟨#[65, 66]⟩)), .const (.string (⟨#[65, 66, 67]⟩)), .const (.string (⟨#[65, 66, 67, 68]⟩)), .const (.string (⟨#[66]⟩)), .const (.string (⟨#[65, 66]⟩)), .const (.string (⟨#[65, 66, 67, 68]⟩)), .const (.string (⟨#[65, 66]⟩))]) rfl rfl rfl (by rfl) (by rfl) rfl (by rfl)) rfl (fun _ _ => ?_)
  rintro ⟨b4, rfl, rfl⟩
  refine g_pure (p_assign rfl) rfl ?_
  refine g_nil <| g_qt <| g_seq <| g_seq <| g_region ?_
  refine g_pure (p_move rfl) rfl ?_
  refine g_pure (p_lss rfl rfl) rfl ?_
  refine g_pure (p_move rfl) rfl ?_
  refine g_splitd rfl rfl (fun h1 => ?_) (fun h1 => ?_)
  · refine g_no rfl rfl rfl rfl ?_
    refine g_no rfl rfl rfl rfl ?_
    first | refine g_pure (p_pickt rfl rfl) rfl ?_ | refine g_pure (p_pickf rfl rfl) rfl ?_
    refine g_nil <| g_qt ?_
    refine g_ift rfl ?_
    refine g_seq <| g_region ?_
    refine g_pure (p_assign rfl) rfl ?_
    refine g_nil <| g_qt <| g_ret <| g_qt_ret ?_
    first | exact g_postA (rs := [.tmp 2]) rfl (.tmp rfl .nil) ⟨rfl, rfl⟩ | exact g_postA (rs := [.tmp 2]) rfl (.tmp rfl .nil) ⟨by rw [hN (fun h => by have := hk.1 h; omega)]; rfl, rfl⟩
  · refine g_yes rfl rfl ?_
    refine g_pure (p_move rfl) rfl ?_
    refine g_yes rfl rfl ?_
    refine g_pure (p_gtr rfl rfl) rfl ?_
    first | refine g_pure (p_pickt rfl rfl) rfl ?_ | refine g_pure (p_pickf rfl rfl) rfl ?_
    refine g_nil <| g_qt ?_
    refine g_ifdL rfl (fun h3 => ?_) (fun h3 => ?_)
    · refine g_seq <| g_region ?_
      refine g_pure (p_assign rfl) rfl ?_
      refine g_nil <| g_qt <| g_ret <| g_qt_ret ?_
      first | exact g_postA (rs := [.tmp 2]) rfl (.tmp rfl .nil) ⟨rfl, rfl⟩ | exact g_postA (rs := [.tmp 2]) rfl (.tmp rfl .nil) ⟨by rw [hN (fun h => by have := hk.1 h; omega)]; rfl, rfl⟩
    · refine g_skip <| g_qt <| g_seq <| g_region ?_
      refine g_pure (p_move rfl) rfl ?_
      refine g_pure (p_move rfl) rfl ?_
      refine g_pure (p_indexAddr rfl rfl (by omega) (fun _ => rfl)) rfl ?_
      refine g_pure (p_load (v := .string (strB (fieldsR op))) (by rfl) rfl (Has.own (by repeat' (first | exact Take.here | apply Take.there))) (fieldsR_at (hk.2 ⟨by omega, by omega⟩))) rfl ?_
      refine g_pure (p_assign rfl) rfl ?_
      refine g_nil <| g_qt <| g_ret ?_
      first | exact g_postA (rs := [.tmp 2]) rfl (.tmp rfl .nil) ⟨rfl, rfl⟩ | exact g_postA (rs := [.tmp 2]) rfl (.tmp rfl .nil) ⟨by rw [hN (fun h => by have := hk.1 h; omega)]; rfl, rfl⟩

theorem rfield_ok {ρ : Nat → Obj → Prop} (i : Ins) (c : UInt8) : Con Tryz.prog ρ 47 #[.agg (encIns i).toArray, .int .u8 c.toNat] [] (fun v H => v = .int .i64 (fieldI i c) ∧ H = []) := by
  have e0 : fieldI i c = if c = 65 then i.2.1 else if c = 66 then i.2.2.1 else if c = 67 then i.2.2.2.1 else i.2.2.2.2 := rfl
  have n1 : c = 65 ↔ (c.toNat : Int) = 65 := by rw [← UInt8.toNat_inj]; show c.toNat = 65 ↔ _; omega
  have n2 : c = 66 ↔ (c.toNat : Int) = 66 := by rw [← UInt8.toNat_inj]; show c.toNat = 66 ↔ _; omega
  have n3 : c = 67 ↔ (c.toNat : Int) = 67 := by rw [← UInt8.toNat_inj]; show c.toNat = 67 ↔ _; omega
  simp only [n1, n2, n3] at e0
  generalize fieldI i c = r at e0 ⊢
  refine con_intro Tryz.func47 Tryz.call47 rfl Tryz.ntmps47 rfl (L := [(0, _), (1, _)]) rfl fun w hh => ?_
  refine g_seq <| g_region ?_
  refine g_eff (e_box rfl (by rfl)) rfl (fun _ _ => ?_)
  rintro ⟨b2, rfl, rfl⟩
  refine g_pure (p_assign rfl) rfl ?_
  refine g_nil <| g_qt <| g_seq <| g_seq <| g_region ?_
  refine g_pure (p_move rfl) rfl ?_
  refine g_nil <| g_qt <| g_block <| g_seq <| g_region ?_
  refine g_pure (p_eql rfl rfl) rfl ?_
  refine g_pure (p_assign rfl) rfl ?_
  refine g_nil <| g_qt ?_
  refine g_ifdL rfl (fun h1 => ?_) (fun h1 => ?_)
  · refine g_seq <| g_region ?_
    refine g_pure (p_fieldAddr rfl) rfl ?_
    refine g_pure (p_loadA) rfl ?_
    refine g_pure (p_assign rfl) rfl ?_
    refine g_nil <| g_qt <| g_ret <| g_qb_ret <| g_qt_ret ?_
    first | (obtain rfl : r = i.2.1 := e0.trans (if_pos (by omega)); exact g_postA (rs := [.tmp 4]) rfl (.tmp rfl .nil) ⟨rfl, rfl⟩) | (obtain rfl : r = i.2.2.1 := e0.trans ((if_neg (by omega)).trans (if_pos (by omega))); exact g_postA (rs := [.tmp 4]) rfl (.tmp rfl .nil) ⟨rfl, rfl⟩) | (obtain rfl : r = i.2.2.2.1 := e0.trans ((if_neg (by omega)).trans ((if_neg (by omega)).trans (if_pos (by omega)))); exact g_postA (rs := [.tmp 4]) rfl (.tmp rfl .nil) ⟨rfl, rfl⟩) | (obtain rfl : r = i.2.2.2.2 := e0.trans ((if_neg (by omega)).trans ((if_neg (by omega)).trans (if_neg (by omega)))); exact g_postA (rs := [.tmp 4]) rfl (.tmp rfl .nil) ⟨rfl, rfl⟩)
  · refine g_seq <| g_region ?_
    refine g_pure (p_eql rfl rfl) rfl ?_
    refine g_pure (p_assign rfl) rfl ?_
    refine g_nil <| g_qt ?_
    refine g_ifdL rfl (fun h2 => ?_) (fun h2 => ?_)
    · refine g_seq <| g_region ?_
      refine g_pure (p_fieldAddr rfl) rfl ?_
      refine g_pure (p_loadA) rfl ?_
      refine g_pure (p_assign rfl) rfl ?_
      refine g_nil <| g_qt <| g_ret <| g_qb_ret <| g_qt_ret ?_
      first | (obtain rfl : r = i.2.1 := e0.trans (if_pos (by omega)); exact g_postA (rs := [.tmp 4]) rfl (.tmp rfl .nil) ⟨rfl, rfl⟩) | (obtain rfl : r = i.2.2.1 := e0.trans ((if_neg (by omega)).trans (if_pos (by omega))); exact g_postA (rs := [.tmp 4]) rfl (.tmp rfl .nil) ⟨rfl, rfl⟩) | (obtain rfl : r = i.2.2.2.1 := e0.trans ((if_neg (by omega)).trans ((if_neg (by omega)).trans (if_pos (by omega)))); exact g_postA (rs := [.tmp 4]) rfl (.tmp rfl .nil) ⟨rfl, rfl⟩) | (obtain rfl : r = i.2.2.2.2 := e0.trans ((if_neg (by omega)).trans ((if_neg (by omega)).trans (if_neg (by omega)))); exact g_postA (rs := [.tmp 4]) rfl (.tmp rfl .nil) ⟨rfl, rfl⟩)
    · refine g_seq <| g_region ?_
      refine g_pure (p_eql rfl rfl) rfl ?_
      refine g_pure (p_assign rfl) rfl ?_
      refine g_nil <| g_qt ?_
      refine g_ifdL rfl (fun h3 => ?_) (fun h3 => ?_)
      · refine g_seq <| g_region ?_
        refine g_pure (p_fieldAddr rfl) rfl ?_
        refine g_pure (p_loadA) rfl ?_
        refine g_pure (p_assign rfl) rfl ?_
        refine g_nil <| g_qt <| g_ret <| g_qb_ret <| g_qt_ret ?_
        first | (obtain rfl : r = i.2.1 := e0.trans (if_pos (by omega)); exact g_postA (rs := [.tmp 4]) rfl (.tmp rfl .nil) ⟨rfl, rfl⟩) | (obtain rfl : r = i.2.2.1 := e0.trans ((if_neg (by omega)).trans (if_pos (by omega))); exact g_postA (rs := [.tmp 4]) rfl (.tmp rfl .nil) ⟨rfl, rfl⟩) | (obtain rfl : r = i.2.2.2.1 := e0.trans ((if_neg (by omega)).trans ((if_neg (by omega)).trans (if_pos (by omega)))); exact g_postA (rs := [.tmp 4]) rfl (.tmp rfl .nil) ⟨rfl, rfl⟩) | (obtain rfl : r = i.2.2.2.2 := e0.trans ((if_neg (by omega)).trans ((if_neg (by omega)).trans (if_neg (by omega)))); exact g_postA (rs := [.tmp 4]) rfl (.tmp rfl .nil) ⟨rfl, rfl⟩)
      · refine g_skip <| g_qb <| g_qt <| g_seq <| g_region ?_
        refine g_pure (p_fieldAddr rfl) rfl ?_
        refine g_pure (p_loadA) rfl ?_
        refine g_pure (p_assign rfl) rfl ?_
        refine g_nil <| g_qt <| g_ret ?_
        first | (obtain rfl : r = i.2.1 := e0.trans (if_pos (by omega)); exact g_postA (rs := [.tmp 4]) rfl (.tmp rfl .nil) ⟨rfl, rfl⟩) | (obtain rfl : r = i.2.2.1 := e0.trans ((if_neg (by omega)).trans (if_pos (by omega))); exact g_postA (rs := [.tmp 4]) rfl (.tmp rfl .nil) ⟨rfl, rfl⟩) | (obtain rfl : r = i.2.2.2.1 := e0.trans ((if_neg (by omega)).trans ((if_neg (by omega)).trans (if_pos (by omega)))); exact g_postA (rs := [.tmp 4]) rfl (.tmp rfl .nil) ⟨rfl, rfl⟩) | (obtain rfl : r = i.2.2.2.2 := e0.trans ((if_neg (by omega)).trans ((if_neg (by omega)).trans (if_neg (by omega)))); exact g_postA (rs := [.tmp 4]) rfl (.tmp rfl .nil) ⟨rfl, rfl⟩)
end Go.Proofs.YtcnfcoojmbjdlaaGreatDoor
/- Chapter 26: the document's numerals, lines and words. Conditions: none. -/
namespace Go.Z
set_option maxRecDepth 8000
set_option linter.unusedVariables false
set_option linter.unusedSimpArgs false
set_option linter.unusedSectionVars false
open Go
variable {P : Program} {n : Nat} {L : Fr} {H : List Assn} {M : Mx}
variable {dd : Option Tmp} {ty t : TypeId} {ps : String} {af : Array Edge} {gd : Option (Nat × Bool)} {x y : Operand} {tz : TypeId} {yt : Ty}
theorem p_addB {a b : List UInt8} [ht : TyC P t yt] (hd : yt.d = .string) (h1 : ev L x = some (.string (Asm.strB a))) (h2 : ev L y = some (.string (Asm.strB b))) (hl : a.length + b.length ≤ 9223372036854775807) : Pur P M n L H ⟨dd, .binOp .add t x y tz, ty, ps, af, gd⟩ (.string (Asm.strB (a ++ b))) := by
  have := p_adds (P := P) (M := M) (n := n) (L := L) (H := H) (dd := dd) (t := t) (ty := ty) (ps := ps) (af := af) (gd := gd) (tz := tz) hd h1 h2 hl
  rw [← Asm.strB_app] at this
  exact this
theorem p_convb {src dst : TypeId} {ys yd : Ty} {k : IntKind} {i : Int} [hs : TyC P src ys] [hde : TyC P dst yd] (hk : yd.d = .int .u8) (h1 : ev L x = some (.int k i)) (h : 0 ≤ i ∧ i ≤ 255) : Pur P M n L H ⟨dd, .convert src dst x, ty, ps, af, gd⟩ (.int .u8 i) := by
  have := p_conv (P := P) (M := M) (n := n) (H := H) (dd := dd) (ty := ty) (ps := ps) (af := af) (gd := gd) (src := src) (dst := dst) hk h1
  rwa [IntWalk.u8_in i (by omega)] at this
end Go.Z
namespace Go.Z.Asm
set_option maxRecDepth 8000
set_option linter.unusedVariables false
set_option linter.unusedSimpArgs false
set_option linter.unusedSectionVars false
open Go Go.Z Go.Lib Go.Z.Txt Go.Z.Val
theorem okI_len {n : Int} (h : okI n) : (itoa n).length ≤ 11 := itoa_len (by obtain ⟨h1, h2⟩ := h; omega)
def midP (w : List UInt8) (l : List Int) : List UInt8 := w ++ (l.map fun n => 32 :: itoa n).flatten
theorem midP_step (w : List UInt8) (l : List Int) {k : Nat} (hk : k < l.length) : midP w (l.take (k + 1)) = midP w (l.take k) ++ [32] ++ itoa l[k] := by
  unfold midP
  rw [List.take_add_one, List.getElem?_eq_getElem hk, Option.toList_some, List.map_append, List.flatten_append]; simp
theorem midP_len (w : List UInt8) : ∀ (l : List Int), (∀ n ∈ l, okI n) → (midP w l).length ≤ w.length + 12 * l.length
  | [], _ => by unfold midP; simp
  | n :: l, h => by
    have ih := midP_len w l (fun x hx => h x (List.mem_cons_of_mem _ hx))
    have h1 := okI_len (h n List.mem_cons_self)
    unfold midP at ih ⊢
    rw [List.length_append] at ih ⊢
    rw [List.map_cons, List.flatten_cons, List.length_append, List.length_cons, List.length_cons]
    omega
end Go.Z.Asm
namespace Go.Proofs.YtcnfcoojmbjdlaaGreatDoor
set_option maxRecDepth 8000
set_option linter.unusedVariables false
set_option linter.unusedSimpArgs false
set_option linter.unusedSectionVars false
open Go Go.Z Go.Z.Asm Go.RowKit Go.Z.Val

theorem rdigits_ok {ρ : Nat → Obj → Prop} (u : Nat) (hu : u ≤ 1000000000000) : Con Tryz.prog ρ 99 #[.int .i64 u] [] (fun v H => v = .string (strB (Lib.decDigits u)) ∧ H = []) := by
  have hdl := dec_len (k := 12) u (by omega)
  refine con_intro Tryz.func99 Tryz.call99 rfl Tryz.ntmps99 rfl (L := [(0, _)]) rfl fun w hh => ?_
  refine g_seq <| g_region ?_
  refine g_pure (p_assign rfl) rfl ?_
  refine g_nil <| g_qt <| g_seq <| g_region ?_
  refine g_pure (p_assign rfl) rfl ?_
  refine g_nil <| g_qt <| g_seq <| g_seq <| g_region ?_
  refine g_pure (p_assign rfl) rfl ?_
  refine g_nil <| g_qt <| g_block ?_
  refine g_loop (fun q : Nat × List UInt8 × Bool => [(0, .int .i64 q.1), (3, .string (strB q.2.1)), (4, .bool q.2.2)]) (fun _ => [])
    (fun q => q.1 ≤ u ∧ q.2.1.length ≤ 13 ∧ (q.2.2 = true → Lib.decDigits u = Lib.decDigits q.1 ++ q.2.1) ∧ (q.2.2 = false → Lib.decDigits u = q.2.1)) (fun q => if q.2.2 = true then q.1 + 1 else 0) (u, [], true) ⟨Nat.le_refl u, Nat.zero_le _, fun _ => by simp, fun h => by cases h⟩ (by (repeat (first | exact trivial | refine ⟨by rfl, ?_⟩)); done) (by repeat' (first | exact Cover.nil | exact Take.here | apply Cover.cons | apply Take.there)) ?_
  rintro ⟨m, s, b⟩ ⟨hm, hsl, h1, h2⟩
  dsimp only at hm hsl h1 h2 ⊢
  refine g_seq <| g_seq <| g_region ?_
  refine g_pure (p_move rfl) rfl ?_
  refine g_nil <| g_qt ?_
  refine g_if rfl (fun q => ?_) (fun q => ?_)
  · have e1 := h1 q
    have hmb : (48 + (m : Int) % 10).toNat = 48 + m % 10 := by omega
    refine g_skip <| g_qt <| g_seq <| g_block <| g_seq <| g_region ?_
    refine g_pure (p_move rfl) rfl ?_
    refine g_pure (p_remn rfl rfl (by decide) (by omega)) rfl ?_
    first | refine g_pure (p_addi rfl rfl (by omega)) rfl ?_ | refine g_pure (p_add rfl rfl) rfl ?_
    refine g_pure (p_convb (by rfl) rfl (by omega)) rfl ?_
    refine g_eff (e_bs (xs := [.tmp 11]) rfl rfl rfl (by rfl) (by rfl) rfl (by rfl)) rfl (fun _ _ => ?_)
    rintro ⟨b12, rfl, rfl⟩
    refine g_pure (p_bts1 (by rfl) (by rfl) rfl (Has.own (by repeat' (first | exact Take.here | apply Take.there)))) rfl ?_
    refine g_pure (p_move rfl) rfl ?_
    refine g_pure (p_addB (a := [UInt8.ofNat (48 + (m : Int) % 10).toNat]) (b := s) (by rfl) rfl rfl (by simp; omega)) rfl ?_
    refine g_pure (p_assign rfl) rfl ?_
    refine g_nil <| g_qt <| g_region ?_
    refine g_pure (p_move rfl) rfl ?_
    refine g_pure (p_quon rfl rfl (by decide) (by omega)) rfl ?_
    refine g_pure (p_assign rfl) rfl ?_
    refine g_nil <| g_qb <| g_qt <| g_region ?_
    refine g_pure (p_move rfl) rfl ?_
    refine g_pure (p_gtr rfl rfl) rfl ?_
    refine g_pure (p_assign rfl) rfl ?_
    refine g_nil <| g_qn ?_
    rw [hmb]
    rw [show (m : Int) / 10 = ((m / 10 : Nat) : Int) by omega]
    by_cases h10 : m < 10
    · have e2 : Lib.decDigits m = [UInt8.ofNat (48 + m % 10)] := by rw [dec_small h10, Nat.mod_eq_of_lt h10]
      have e3 : Lib.decDigits u = [UInt8.ofNat (48 + m % 10)] ++ s := by rw [e1, e2]
      exact g_nextA (m / 10, [UInt8.ofNat (48 + m % 10)] ++ s, decide ((0 : Int) < ((m / 10 : Nat) : Int))) ⟨by dsimp only; omega, by dsimp only; rw [← e3]; omega, fun h => by dsimp only at h; rw [decide_eq_true_eq] at h; omega, fun _ => e3⟩ (by dsimp only; rw [if_pos q, if_neg (by rw [decide_eq_true_eq]; omega)]; omega)
    · have e2 : Lib.decDigits m = Lib.decDigits (m / 10) ++ [UInt8.ofNat (48 + m % 10)] := dec_big h10
      have e3 : Lib.decDigits u = Lib.decDigits (m / 10) ++ ([UInt8.ofNat (48 + m % 10)] ++ s) := by rw [e1, e2, List.append_assoc]
      have e4 : ([UInt8.ofNat (48 + m % 10)] ++ s).length ≤ 13 := by have := congrArg List.length e3; rw [List.length_append] at this; omega
      exact g_nextA (m / 10, [UInt8.ofNat (48 + m % 10)] ++ s, decide ((0 : Int) < ((m / 10 : Nat) : Int))) ⟨by dsimp only; omega, e4, fun _ => e3, fun h => by dsimp only at h; rw [decide_eq_false_iff_not] at h; omega⟩ (by dsimp only; rw [if_pos q, if_pos (by rw [decide_eq_true_eq]; omega)]; omega)
  · refine g_exit <| g_qt_exit <| g_qn_exit <| g_qb_exit <| g_qt <| g_seq <| g_region ?_
    refine g_pure (p_move rfl) rfl ?_
    refine g_pure (p_assign rfl) rfl ?_
    refine g_nil <| g_qt <| g_ret ?_
    exact g_postA (rs := [.tmp 2]) rfl (.tmp rfl .nil) ⟨by rw [h2 q]; rfl, rfl⟩
theorem rnumber_ok {ρ : Nat → Obj → Prop} (n : Int) (hn : okI n) : Con Tryz.prog ρ 71 #[.int .i64 n] [] (fun v H => v = .string (strB (Lib.itoa n)) ∧ H = []) := by
  obtain ⟨hn1, hn2⟩ := hn
  refine con_intro Tryz.func71 Tryz.call71 rfl Tryz.ntmps71 rfl (L := [(0, _)]) rfl fun w hh => ?_
  refine g_seq <| g_region ?_
  refine g_pure (p_assign rfl) rfl ?_
  refine g_nil <| g_qt <| g_seq <| g_seq <| g_region ?_
  refine g_pure (p_move rfl) rfl ?_
  refine g_pure (p_lss rfl rfl) rfl ?_
  refine g_nil <| g_qt ?_
  refine g_ifd rfl (fun h => ?_) (fun h => ?_)
  · have hdl := dec_len (k := 12) n.natAbs (by omega)
    refine g_seq <| g_region ?_
    refine g_pure (p_move rfl) rfl ?_
    first | refine g_pure (p_negi rfl (by omega)) rfl ?_ | refine g_pure (p_neg rfl) rfl ?_
    rw [show -n = ((n.natAbs : Nat) : Int) by omega]
    refine g_call (Hin := []) (Hr := ?hr1) (R := ?rr1) rfl rfl rfl ?hin1 ?hc1 ?hk1
    case hin1 => repeat' (first | exact Cover.nil | exact Take.here | apply Cover.cons | apply Take.there)
    case hc1 => intro ρ' hρ hR; exact rdigits_ok n.natAbs (by omega)
    rintro _ _ ⟨rfl, rfl⟩
    refine g_pure (p_addB (a := [45]) (b := Lib.decDigits n.natAbs) (by rfl) rfl rfl (by simp; omega)) rfl ?_
    refine g_pure (p_assign rfl) rfl ?_
    refine g_nil <| g_qt <| g_ret <| g_qt_ret ?_
    exact g_postA (rs := [.tmp 2]) rfl (.tmp rfl .nil) ⟨by rw [itoa_neg h]; rfl, rfl⟩
  · refine g_skip <| g_qt <| g_seq <| g_region ?_
    refine g_pure (p_move rfl) rfl ?_
    rw [show n = ((n.toNat : Nat) : Int) by omega]
    refine g_call (Hin := []) (Hr := ?hr2) (R := ?rr2) rfl rfl rfl ?hin2 ?hc2 ?hk2
    case hin2 => repeat' (first | exact Cover.nil | exact Take.here | apply Cover.cons | apply Take.there)
    case hc2 => intro ρ' hρ hR; exact rdigits_ok n.toNat (by omega)
    rintro _ _ ⟨rfl, rfl⟩
    refine g_pure (p_assign rfl) rfl ?_
    refine g_nil <| g_qt <| g_ret ?_
    exact g_postA (rs := [.tmp 2]) rfl (.tmp rfl .nil) ⟨by rw [itoa_pos (by omega)]; rfl, rfl⟩
theorem rline_ok {ρ : Nat → Obj → Prop} (wd : List UInt8) (a : Option Addr) (c : Nat) (l : List Int) (hl : RSl ρ 1 a l.length (l.map encI)) (hn : ∀ n ∈ l, okI n) (hb : wd.length + 12 * l.length ≤ 1000000000000) :
    Con Tryz.prog ρ 45 #[.string (strB wd), .slice a l.length c] [] (fun v H => v = .string (strB (lineP wd l)) ∧ H = []) := by
  obtain ⟨_, b1, o1, c1, T1, f1, hr1⟩ := hl
  refine con_intro Tryz.func45 Tryz.call45 rfl Tryz.ntmps45 rfl (L := [(0, _), (1, _)]) rfl fun w hh => ?_
  refine g_seq <| g_region ?_
  refine g_pure (p_assign rfl) rfl ?_
  refine g_nil <| g_qt <| g_seq <| g_seq <| g_region ?_
  refine g_pure (p_assign rfl) rfl ?_
  refine g_nil <| g_qt <| g_block ?_
  rw [show strB wd = strB (midP wd (l.take 0)) by unfold midP; simp]
  refine g_loop (fun k : Nat => [(0, .string (strB (midP wd (l.take k)))), (1, .slice a l.length c), (5, .int .i64 k)]) (fun _ => []) (fun k => k ≤ l.length) (fun k => l.length - k) 0 (Nat.zero_le _) (by (repeat (first | exact trivial | refine ⟨by rfl, ?_⟩)); done) (by repeat' (first | exact Cover.nil | exact Take.here | apply Cover.cons | apply Take.there)) ?_
  rintro k hk1
  have hml := midP_len wd (l.take k) (fun n h => hn n (List.mem_of_mem_take h))
  rw [List.length_take] at hml
  refine g_seq <| g_seq <| g_region ?_
  refine g_pure (p_move rfl) rfl ?_
  refine g_pure (p_move rfl) rfl ?_
  refine g_pure (p_len (by rfl) rfl) rfl ?_
  refine g_pure (p_lss rfl rfl) rfl ?_
  refine g_nil <| g_qt ?_
  refine g_ifd rfl (fun q => ?_) (fun q => ?_)
  · have hkl : k < l.length := by omega
    have hx : c1[o1 + (k : Int).toNat * 1]? = some (.int .i64 l[k]) := by
      rw [Int.toNat_natCast, Nat.mul_one]
      exact (hr1 (by omega)).2.2 k _ (mapI2 l hkl)
    have hok := hn _ (List.getElem_mem hkl)
    have hol := okI_len hok
    have hst := midP_step wd l hkl
    generalize l[k] = z at hx hok hol hst
    refine g_skip <| g_qt <| g_seq <| g_block <| g_region ?_
    refine g_pure (p_move rfl) rfl ?_
    refine g_pure (p_addB (a := midP wd (l.take k)) (b := [32]) (by rfl) rfl rfl (by simp; omega)) rfl ?_
    refine g_pure (p_move rfl) rfl ?_
    refine g_pure (p_move rfl) rfl ?_
    refine g_pure (p_indexAddr rfl rfl (by omega) (fun _ => (hr1 (by omega)).1)) rfl ?_
    refine g_pure (p_load (by rfl) rfl (Has.ro (hr1 (by omega)).2.1) hx) rfl ?_
    refine g_call (Hin := []) (Hr := ?hr3) (R := ?rr3) rfl rfl rfl ?hin3 ?hc3 ?hk3
    case hin3 => repeat' (first | exact Cover.nil | exact Take.here | apply Cover.cons | apply Take.there)
    case hc3 => intro ρ' hρ hR; exact rnumber_ok z hok
    rintro _ _ ⟨rfl, rfl⟩
    refine g_pure (p_addB (a := midP wd (l.take k) ++ [32]) (b := Lib.itoa z) (by rfl) rfl rfl (by simp; omega)) rfl ?_
    refine g_pure (p_assign rfl) rfl ?_
    refine g_nil <| g_qb <| g_qt <| g_region ?_
    refine g_pure (p_move rfl) rfl ?_
    first | refine g_pure (p_addi rfl rfl (by omega)) rfl ?_ | refine g_pure (p_add rfl rfl) rfl ?_
    refine g_pure (p_assign rfl) rfl ?_
    refine g_nil <| g_qn ?_
    rw [← hst]
    exact g_nextA (k + 1) (by omega) (by omega)
  · rw [List.take_of_length_le (by omega)] at hml ⊢
    refine g_exit <| g_qt_exit <| g_qn_exit <| g_qb_exit <| g_qt <| g_seq <| g_region ?_
    refine g_pure (p_move rfl) rfl ?_
    refine g_pure (p_addB (a := midP wd l) (b := [10]) (by rfl) rfl rfl (by simp; omega)) rfl ?_
    refine g_pure (p_assign rfl) rfl ?_
    refine g_nil <| g_qt <| g_ret ?_
    exact g_postA (rs := [.tmp 4]) rfl (.tmp rfl .nil) ⟨rfl, rfl⟩
theorem wordR_at {op : Int} (h : knownP op) : ((List.range 11).map fun k => Value.string (strB (wordR k)))[0 + op.toNat * 1]? = some (.string (strB (opRow op).1)) := by
  rcases op_cases h with rfl | rfl | rfl | rfl | rfl | rfl | rfl | rfl | rfl | rfl <;> rfl
theorem rword_ok {ρ : Nat → Obj → Prop} (op : Int) (h : knownP op) : Con Tryz.prog ρ 48 #[.int .i64 op] [] (fun v H => v = .string (strB (opRow op).1) ∧ H = []) := by
  have hk : 1 ≤ op ∧ op ≤ 10 := h
  refine con_intro Tryz.func48 Tryz.call48 rfl Tryz.ntmps48 rfl (L := [(0, _)]) rfl fun w hh => ?_
  refine g_seq <| g_region ?_
  refine g_pure (p_assign rfl) rfl ?_
  refine g_nil <| g_qt <| g_seq <| g_region ?_
  refine g_eff (e_bs (xs := [.const (.string (⟨#[]⟩)), .const (.string (⟨#[108, 111, 97, 100]⟩)), .const (.string (⟨#[109, 111, 118, 101]⟩)), .const (.string (⟨#[114, 101, 97, 100]⟩)), .const (.string (⟨#[119, 114, 105, 116, 101]⟩)), .const (.string (⟨#[117, 110, 97, 114, 121]⟩)), .const (.string (⟨#[97, 112, 112, 108, 121]⟩)), .const (.string (⟨#[106, 117, 109, 112]⟩)), .const (.string (⟨#[122, 101, 114, 111]⟩)), .const (.string (⟨#[99, 97, 108, 108]⟩)), .const (.string (⟨#[114, 101, 115, 101, 116]⟩))]) rfl rfl rfl (by rfl) (by rfl) rfl (by rfl)) rfl (fun _ _ => ?_)
  rintro ⟨b4, rfl, rfl⟩
  refine g_pure (p_assign rfl) rfl ?_
  refine g_nil <| g_qt <| g_seq <| g_region ?_
  refine g_pure (p_move rfl) rfl ?_
  refine g_pure (p_move rfl) rfl ?_
  refine g_pure (p_indexAddr rfl rfl (by omega) (fun _ => rfl)) rfl ?_
  refine g_pure (p_load (v := .string (strB (opRow op).1)) (by rfl) rfl (Has.own (by repeat' (first | exact Take.here | apply Take.there))) (wordR_at h)) rfl ?_
  refine g_pure (p_assign rfl) rfl ?_
  refine g_nil <| g_qt <| g_ret ?_
  exact g_postA (rs := [.tmp 2]) rfl (.tmp rfl .nil) ⟨rfl, rfl⟩
end Go.Proofs.YtcnfcoojmbjdlaaGreatDoor
/- Chapter 26: the document's check: form and ranges of an instruction. Conditions: none. -/
namespace Go.Z.Asm
set_option maxRecDepth 8000
set_option linter.unusedVariables false
set_option linter.unusedSimpArgs false
set_option linter.unusedSectionVars false
open Go Go.Z Go.Lib
theorem ranges_cases (rts : List Rt) (k : Nat) (x : Rt) (i : Ins) {y : Rt} (hy : calledP rts i.2.1 = y) {R : Bool} (hR : rangesR rts k x i = R) {g m : Int} (hg : x.2.2.2.1 = g) (hm : (x.2.2.2.2.1.length : Int) = m) :
    (i.1 = 1 → R = decide ((0 ≤ i.2.1 ∧ i.2.1 ≤ g ∧ 1 ≤ g - i.2.1) ∧ -32768 ≤ i.2.2.1 ∧ i.2.2.1 ≤ 32767)) ∧
    (i.1 = 2 ∨ i.1 = 5 → R = decide ((0 ≤ i.2.1 ∧ i.2.1 ≤ g ∧ 1 ≤ g - i.2.1) ∧ 0 ≤ i.2.2.1 ∧ i.2.2.1 ≤ g ∧ 1 ≤ g - i.2.2.1)) ∧
    (i.1 = 3 → R = decide ((0 ≤ i.2.1 ∧ i.2.1 ≤ g ∧ 1 ≤ g - i.2.1) ∧ 0 ≤ i.2.2.1 ∧ i.2.2.1 ≤ m ∧ 1 ≤ m - i.2.2.1)) ∧
    (i.1 = 4 → R = decide ((0 ≤ i.2.1 ∧ i.2.1 ≤ m ∧ 1 ≤ m - i.2.1) ∧ 0 ≤ i.2.2.1 ∧ i.2.2.1 ≤ g ∧ 1 ≤ g - i.2.2.1)) ∧
    (i.1 = 6 → R = decide ((0 ≤ i.2.1 ∧ i.2.1 ≤ g ∧ 1 ≤ g - i.2.1) ∧ (0 ≤ i.2.2.1 ∧ i.2.2.1 ≤ g ∧ 1 ≤ g - i.2.2.1) ∧ 0 ≤ i.2.2.2.1 ∧ i.2.2.2.1 ≤ g ∧ 1 ≤ g - i.2.2.2.1)) ∧
    (i.1 = 8 → R = decide (0 ≤ i.2.1 ∧ i.2.1 ≤ g ∧ 1 ≤ g - i.2.1)) ∧
    (i.1 = 9 → R = decide ((0 ≤ i.2.1 ∧ i.2.1 < k) ∧ (0 ≤ i.2.2.1 ∧ i.2.2.1 ≤ m ∧ (y.2.2.2.2.1.length : Int) ≤ m - i.2.2.1) ∧ (0 ≤ i.2.2.2.1 ∧ i.2.2.2.1 ≤ g ∧ (y.2.1.length : Int) ≤ g - i.2.2.2.1) ∧ 0 ≤ i.2.2.2.2 ∧ i.2.2.2.2 ≤ g ∧ (y.2.2.1.length : Int) ≤ g - i.2.2.2.2)) ∧
    (i.1 = 10 → R = decide ((0 ≤ i.2.1 ∧ i.2.1 < k) ∧ 0 ≤ i.2.2.1 ∧ i.2.2.1 ≤ m ∧ (y.2.2.2.2.1.length : Int) ≤ m - i.2.2.1)) ∧
    (¬ (1 ≤ i.1 ∧ i.1 ≤ 6) → ¬ (8 ≤ i.1 ∧ i.1 ≤ 10) → R = true) := by
  subst hg hm hR hy
  obtain ⟨op, A, B, C, D⟩ := i
  have hW : ∀ x n m : Int, (0 ≤ x ∧ x ≤ m ∧ n ≤ m - x) = withinP x n m := fun _ _ _ => rfl
  dsimp only
  refine ⟨?_, ?_, ?_, ?_, ?_, ?_, ?_, ?_, ?_⟩
  · rintro rfl; rw [Bool.eq_iff_iff, decide_eq_true_eq]; simp only [hW]; simp [rangesR]
  · rintro (rfl | rfl) <;> (rw [Bool.eq_iff_iff, decide_eq_true_eq]; simp only [hW]; simp [rangesR])
  · rintro rfl; rw [Bool.eq_iff_iff, decide_eq_true_eq]; simp only [hW]; simp [rangesR]
  · rintro rfl; rw [Bool.eq_iff_iff, decide_eq_true_eq]; simp only [hW]; simp [rangesR]
  · rintro rfl; rw [Bool.eq_iff_iff, decide_eq_true_eq]; simp only [hW]; simp [rangesR]
  · rintro rfl; rw [Bool.eq_iff_iff, decide_eq_true_eq]; simp only [hW]; simp [rangesR]
  · rintro rfl; rw [Bool.eq_iff_iff, decide_eq_true_eq]; simp only [hW]; simp [rangesR]
  · rintro rfl; rw [Bool.eq_iff_iff, decide_eq_true_eq]; simp only [hW]; simp [rangesR]
  · intro h1 h2
    unfold rangesR
    dsimp only
    rw [if_neg (by omega), if_neg (by omega), if_neg (by omega), if_neg (by omega), if_neg (by omega), if_neg (by omega), if_neg (by omega)]
end Go.Z.Asm
namespace Go.Proofs.YtcnfcoojmbjdlaaGreatDoor
set_option maxRecDepth 8000
set_option linter.unusedVariables false
set_option linter.unusedSimpArgs false
set_option linter.unusedSectionVars false
open Go Go.Z Go.Z.Asm

theorem rwi_ok {ρ : Nat → Obj → Prop} (x n m : Int) (hm : I64 m) : Con Tryz.prog ρ 86 #[.int .i64 x, .int .i64 n, .int .i64 m] [] (fun v H => v = .bool (decide (0 ≤ x ∧ x ≤ m ∧ n ≤ m - x)) ∧ H = []) := rwithin_ok x n m hm

theorem rform_ok {ρ : Nat → Obj → Prop} (i : Ins) (at' len : Int) : Con Tryz.prog ρ 66 #[.agg (encIns i).toArray, .int .i64 at', .int .i64 len] [] (fun v H => v = .bool (formP len at' i) ∧ H = []) := by
  rw [form_ref]
  have hkn : knownP i.1 ↔ 1 ≤ i.1 ∧ i.1 ≤ 10 := Iff.rfl
  have hfl : (fieldsR i.1).length ≤ 100 := by
    unfold fieldsR
    split
    · rename_i h; rcases op_cases h with h | h | h | h | h | h | h | h | h | h <;> rw [h] <;> decide
    · decide
  refine con_intro Tryz.func66 Tryz.call66 rfl Tryz.ntmps66 rfl (L := [(0, _), (1, _), (2, _)]) rfl fun w hh => ?_
  refine g_seq <| g_region ?_
  refine g_eff (e_box rfl (by rfl)) rfl (fun _ _ => ?_)
  rintro ⟨b3, rfl, rfl⟩
  refine g_pure (p_assign rfl) rfl ?_
  refine g_nil <| g_qt <| g_seq ?_
  refine g_join (fun _ : Unit => [(1, .int .i64 at'), (2, .int .i64 len), (3, .pointer (some ⟨b3, 0, none⟩))]) (fun _ => [Blk b3 (.cells [.int .i64 i.1, .int .i64 i.2.1, .int .i64 i.2.2.1, .int .i64 i.2.2.2.1, .int .i64 i.2.2.2.2].toArray 32 (0, 0))]) (fun _ => knownP i.1) ?_ ?_
  · refine g_seq <| g_region ?_
    refine g_pure (p_fieldAddr rfl) rfl ?_
    refine g_pure (p_loadA) rfl ?_
    refine g_pure (p_lss rfl rfl) rfl ?_
    refine g_pure (p_move rfl) rfl ?_
    refine g_splitd rfl rfl (fun h1 => ?_) (fun h1 => ?_)
    · refine g_no rfl rfl rfl rfl ?_
      refine g_no rfl rfl rfl rfl ?_
      refine g_no rfl rfl rfl rfl ?_
      first | refine g_pure (p_pickt rfl rfl) rfl ?_ | refine g_pure (p_pickf rfl rfl) rfl ?_
      refine g_nil <| g_qt ?_
      refine g_ift rfl ?_
      refine g_seq <| g_region ?_
      refine g_pure (p_assign rfl) rfl ?_
      refine g_nil <| g_qt <| g_ret <| g_qn_ret <| g_qt_ret ?_
      exact g_postA (rs := [.tmp 6]) rfl (.tmp rfl .nil) ⟨by rw [decide_eq_false (fun h => by have := hkn.1 h; omega)]; rfl, rfl⟩
    · refine g_yes rfl rfl ?_
      refine g_pure (p_fieldAddr rfl) rfl ?_
      refine g_yes rfl rfl ?_
      refine g_pure (p_loadA) rfl ?_
      refine g_yes rfl rfl ?_
      refine g_pure (p_gtr rfl rfl) rfl ?_
      first | refine g_pure (p_pickt rfl rfl) rfl ?_ | refine g_pure (p_pickf rfl rfl) rfl ?_
      refine g_nil <| g_qt ?_
      refine g_ifdL rfl (fun h3 => ?_) (fun h3 => ?_)
      · refine g_seq <| g_region ?_
        refine g_pure (p_assign rfl) rfl ?_
        refine g_nil <| g_qt <| g_ret <| g_qn_ret <| g_qt_ret ?_
        exact g_postA (rs := [.tmp 6]) rfl (.tmp rfl .nil) ⟨by rw [decide_eq_false (fun h => by have := hkn.1 h; omega)]; rfl, rfl⟩
      · refine g_skip <| g_qn ?_
        exact g_joinedA () (hkn.2 ⟨by omega, by omega⟩)
  rintro _ hk
  refine g_qt ?_
  rw [decide_eq_true hk, Bool.true_and]
  refine g_seq <| g_region ?_
  refine g_pure (p_assign rfl) rfl ?_
  refine g_nil <| g_qt <| g_seq <| g_seq <| g_region ?_
  refine g_pure (p_assign rfl) rfl ?_
  refine g_nil <| g_qt <| g_block ?_
  refine g_loop (fun k : Nat => [(1, .int .i64 at'), (2, .int .i64 len), (3, .pointer (some ⟨b3, 0, none⟩)), (7, .string ⟨#[65, 66, 67, 68]⟩), (8, .int .i64 k)])
    (fun _ => [Blk b3 (.cells [.int .i64 i.1, .int .i64 i.2.1, .int .i64 i.2.2.1, .int .i64 i.2.2.2.1, .int .i64 i.2.2.2.2].toArray 32 (0, 0))]) (fun k => k ≤ 4 ∧ (lettersP.take k).all (zeroR i) = true) (fun k => 4 - k) 0 ⟨Nat.zero_le _, rfl⟩ (by (repeat (first | exact trivial | refine ⟨by rfl, ?_⟩)); done) (by repeat' (first | exact Cover.nil | exact Take.here | apply Cover.cons | apply Take.there)) ?_
  rintro k ⟨hk1, hk2⟩
  refine g_seq <| g_seq <| g_region ?_
  refine g_pure (p_move rfl) rfl ?_
  refine g_pure (p_lss rfl rfl) rfl ?_
  refine g_nil <| g_qt ?_
  refine g_ifd rfl (fun q => ?_) (fun q => ?_)
  · have hkl : k < lettersP.length := by show k < 4; omega
    have hk1' : k + 1 ≤ 4 := hkl
    have hk2' : 4 - (k + 1) < 4 - k := by omega
    obtain ⟨t1, t2⟩ := take_char hkl hk2
    have hx := strB_at lettersP hkl
    generalize lettersP[k] = c at t1 t2 hx
    have hz : zeroR i c = ((fieldsR i.1).contains c || decide (fieldI i c = 0)) := rfl
    obtain ⟨y, hy⟩ : ∃ y, (fieldsR i.1).contains c = y := ⟨_, rfl⟩
    rw [hy] at hz
    have z1 : (!y) = false → zeroR i c = true := fun h => by rw [hz, show y = true by simpa using h]; rfl
    have z2 : fieldI i c = 0 → zeroR i c = true := fun h => by rw [hz, decide_eq_true h, Bool.or_true]
    have z3 : (!y) = true → fieldI i c ≠ 0 → zeroR i c = false := fun h h2 => by rw [hz, show y = false by simpa using h, decide_eq_false h2]; rfl
    have cH : ∀ ρ' : Nat → Obj → Prop, Con Tryz.prog ρ' 85 #[.string (strB (fieldsR i.1)), .int .u8 c.toNat] [] (fun v H => v = .bool y ∧ H = []) := fun ρ' => by have := rhas_ok (ρ := ρ') (fieldsR i.1) c hfl; rw [hy] at this; exact this
    refine g_skip <| g_qt <| g_seq <| g_block <| g_seq ?_
    refine m_begin0 (.fl 0 0 (.fl 1 1 (.fl 3 0 (.fl 4 0 (.fl 5 0 (.ef 2 (.ef 6 (.fl 7 0 (.fl 8 0 (.fl 9 1 (.fl 10 0 (.fl 11 0 (.fl 12 0 (.ef 13 (.fl 14 0 (.fl 15 0 .done)))))))))))))))) (by kernel_rfl) (by kernel_rfl) ?_
    refine m_float0 rfl (fun _ _ => p_fieldAddr rfl) rfl ?_
    refine m_float rfl (p_loadA) rfl ?_
    refine m_float0 rfl (fun _ _ => p_move rfl) rfl ?_
    refine m_float0 rfl (fun _ _ => p_move rfl) rfl ?_
    refine m_float0 rfl (fun _ _ => p_indexs (s := ⟨#[65, 66, 67, 68]⟩) (by rfl) rfl rfl (by omega) hx) rfl ?_
    refine m_call (Hin := []) (Hr := ?hr1) (R := ?rr1) rfl wantedN rfl rfl rfl ?hin1 ?hc1 ?hk1
    case hin1 => repeat' (first | exact Cover.nil | exact Take.here | apply Cover.cons | apply Take.there)
    case hc1 => intro ρ' hρ hR; exact rfields_ok i.1
    rintro _ _ ⟨rfl, rfl⟩
    refine ⟨.some (by repeat' (first | exact Cover.nil | exact Take.here | apply Cover.cons | apply Take.there)), ?_⟩
    refine m_call (Hin := []) (Hr := ?hr2) (R := ?rr2) rfl wantedN rfl rfl rfl ?hin2 ?hc2 ?hk2
    case hin2 => repeat' (first | exact Cover.nil | exact Take.here | apply Cover.cons | apply Take.there)
    case hc2 => intro ρ' hρ hR; exact cH ρ'
    rintro _ _ ⟨rfl, rfl⟩
    refine ⟨.some (by repeat' (first | exact Cover.nil | exact Take.here | apply Cover.cons | apply Take.there)), ?_⟩
    refine m_float0 rfl (fun _ _ => p_not rfl) rfl ?_
    refine m_float0 rfl (fun _ _ => p_move rfl) rfl ?_
    refine m_split 8 rfl rfl (fun h1 => ?_) (fun h1 => ?_)
    · first | refine m_yes rfl rfl rfl (p_loadO (by rfl) rfl (by first | (apply Has.own; (repeat' (first | exact Take.here | apply Take.there)); done) | exact Has.ro (by assumption)) (by rfl)) rfl ?_ | refine m_yes rfl rfl rfl (p_loadN (by rfl) rfl (by first | (apply Has.own; (repeat' (first | exact Take.here | apply Take.there)); done) | exact Has.ro (by assumption)) (by first | rfl | assumption)) rfl ?_
      refine m_yes0 rfl rfl rfl (fun _ _ => p_move rfl) rfl ?_
      refine m_yes0 rfl rfl rfl (fun _ _ => p_move rfl) rfl ?_
      refine m_yes0 rfl rfl rfl (fun _ _ => p_indexs (s := ⟨#[65, 66, 67, 68]⟩) (by rfl) rfl rfl (by omega) hx) rfl ?_
      refine m_call (Hin := []) (Hr := ?hr3) (R := ?rr3) rfl (wantedY rfl rfl) rfl rfl rfl ?hin3 ?hc3 ?hk3
      case hin3 => repeat' (first | exact Cover.nil | exact Take.here | apply Cover.cons | apply Take.there)
      case hc3 => intro ρ' hρ hR; exact rfield_ok i c
      rintro _ _ ⟨rfl, rfl⟩
      refine ⟨.none (by kernel_rfl), ?_⟩
      refine m_yes0 rfl rfl rfl (fun _ _ => p_neq rfl rfl) rfl ?_
      first | refine m_float0 rfl (fun _ _ => p_pickt rfl rfl) rfl ?_ | refine m_float0 rfl (fun _ _ => p_pickf rfl rfl) rfl ?_
      refine m_nil ?_
      refine g_qt ?_
      refine g_ifndL rfl (fun h2 => ?_) (fun h2 => ?_)
      · refine g_seq <| g_region ?_
        refine g_pure (p_assign rfl) rfl ?_
        refine g_nil <| g_qt <| g_ret <| g_qb_ret <| g_qt_ret <| g_qn_ret <| g_qb_ret <| g_qt_ret ?_
        exact g_postA (rs := [.tmp 6]) rfl (.tmp rfl .nil) ⟨by rw [t2 (z3 (by assumption) (by assumption))]; rfl, rfl⟩
      · refine g_skip <| g_qb <| g_qt <| g_region ?_
        refine g_pure (p_move rfl) rfl ?_
        first | refine g_pure (p_addi rfl rfl (by omega)) rfl ?_ | refine g_pure (p_add rfl rfl) rfl ?_
        refine g_pure (p_assign rfl) rfl ?_
        refine g_nil <| g_qn ?_
        first | exact g_nextA (k + 1) ⟨hk1', t1 (z2 (by omega))⟩ hk2' | exact g_nextA (k + 1) ⟨hk1', t1 (z1 (by assumption))⟩ hk2'
    · refine m_no rfl rfl rfl rfl rfl ?_
      refine m_no0 rfl rfl rfl rfl rfl ?_
      refine m_no0 rfl rfl rfl rfl rfl ?_
      refine m_no0 rfl rfl rfl rfl rfl ?_
      refine m_noe rfl rfl rfl rfl rfl (.none (by kernel_rfl)) ?_
      refine m_no0 rfl rfl rfl rfl rfl ?_
      first | refine m_float0 rfl (fun _ _ => p_pickt rfl rfl) rfl ?_ | refine m_float0 rfl (fun _ _ => p_pickf rfl rfl) rfl ?_
      refine m_nil ?_
      refine g_qt ?_
      refine g_iff rfl ?_
      refine g_skip <| g_qb <| g_qt <| g_region ?_
      refine g_pure (p_move rfl) rfl ?_
      first | refine g_pure (p_addi rfl rfl (by omega)) rfl ?_ | refine g_pure (p_add rfl rfl) rfl ?_
      refine g_pure (p_assign rfl) rfl ?_
      refine g_nil <| g_qn ?_
      first | exact g_nextA (k + 1) ⟨hk1', t1 (z2 (by omega))⟩ hk2' | exact g_nextA (k + 1) ⟨hk1', t1 (z1 (by assumption))⟩ hk2'
  · have hall : lettersP.all (zeroR i) = true := by rw [List.take_of_length_le (show lettersP.length ≤ k by show 4 ≤ k; omega)] at hk2; exact hk2
    rw [hall, Bool.true_and]
    have d5 : i.1 = 5 → lastR len at' i = decide (i.2.2.2.1 = 1 ∨ i.2.2.2.1 = 2) := fun h => by unfold lastR; rw [if_pos h]
    have d6 : i.1 = 6 → lastR len at' i = decide (3 ≤ i.2.2.2.2 ∧ i.2.2.2.2 ≤ 16) := fun h => by unfold lastR; rw [if_neg (by omega), if_pos h]
    have d7 : i.1 = 7 ∨ i.1 = 8 → lastR len at' i = decide (at' < i.2.2.1 ∧ i.2.2.1 ≤ len) := fun h => by unfold lastR; rw [if_neg (by omega), if_neg (by omega), if_pos h]
    have hE : ¬ (5 ≤ i.1 ∧ i.1 ≤ 8) → lastR len at' i = true := fun h => by unfold lastR; rw [if_neg (by omega), if_neg (by omega), if_neg (by omega)]
    generalize lastR len at' i = R at d5 d6 d7 hE ⊢
    refine g_exit <| g_qt_exit <| g_qn_exit <| g_qb_exit <| g_qt <| g_seq <| g_seq <| g_region ?_
    refine g_pure (p_fieldAddr rfl) rfl ?_
    refine g_pure (p_loadA) rfl ?_
    refine g_nil <| g_qt <| g_block <| g_seq <| g_region ?_
    refine g_pure (p_eql rfl rfl) rfl ?_
    refine g_pure (p_assign rfl) rfl ?_
    refine g_nil <| g_qt ?_
    refine g_ifdL rfl (fun h1 => ?_) (fun h1 => ?_)
    · refine g_seq <| g_region ?_
      refine g_pure (p_fieldAddr rfl) rfl ?_
      refine g_pure (p_loadA) rfl ?_
      refine g_pure (p_eql rfl rfl) rfl ?_
      refine g_pure (p_move rfl) rfl ?_
      refine g_splitd rfl rfl (fun h2 => ?_) (fun h2 => ?_)
      · refine g_no rfl rfl rfl rfl ?_
        refine g_no rfl rfl rfl rfl ?_
        refine g_no rfl rfl rfl rfl ?_
        first | refine g_pure (p_pickt rfl rfl) rfl ?_ | refine g_pure (p_pickf rfl rfl) rfl ?_
        refine g_pure (p_assign rfl) rfl ?_
        refine g_nil <| g_qt <| g_ret <| g_qb_ret <| g_qt_ret ?_
        first | exact g_postA (rs := [.tmp 6]) rfl (.tmp rfl .nil) ⟨show Value.bool true = _ by (rw [d5 (by omega), decide_eq_true (by omega)]), rfl⟩ | exact g_postA (rs := [.tmp 6]) rfl (.tmp rfl .nil) ⟨show Value.bool (decide (i.2.2.2.1 = 2)) = _ by (rw [d5 (by omega)]; congr 1; exact decide_eq_decide.2 (by omega)), rfl⟩ | exact g_postA (rs := [.tmp 6]) rfl (.tmp rfl .nil) ⟨show Value.bool false = _ by (rw [d6 (by omega), decide_eq_false (by omega)]), rfl⟩ | exact g_postA (rs := [.tmp 6]) rfl (.tmp rfl .nil) ⟨show Value.bool (decide (i.2.2.2.2 ≤ 16)) = _ by (rw [d6 (by omega)]; congr 1; exact decide_eq_decide.2 (by omega)), rfl⟩ | exact g_postA (rs := [.tmp 6]) rfl (.tmp rfl .nil) ⟨show Value.bool false = _ by (rw [d7 (by omega), decide_eq_false (by omega)]), rfl⟩ | exact g_postA (rs := [.tmp 6]) rfl (.tmp rfl .nil) ⟨show Value.bool (decide (i.2.2.1 ≤ len)) = _ by (rw [d7 (by omega)]; congr 1; exact decide_eq_decide.2 (by omega)), rfl⟩ | exact g_postA (rs := [.tmp 6]) rfl (.tmp rfl .nil) ⟨show Value.bool true = _ by (rw [hE (by omega)]), rfl⟩
      · refine g_yes rfl rfl ?_
        refine g_pure (p_fieldAddr rfl) rfl ?_
        refine g_yes rfl rfl ?_
        refine g_pure (p_loadA) rfl ?_
        refine g_yes rfl rfl ?_
        refine g_pure (p_eql rfl rfl) rfl ?_
        first | refine g_pure (p_pickt rfl rfl) rfl ?_ | refine g_pure (p_pickf rfl rfl) rfl ?_
        refine g_pure (p_assign rfl) rfl ?_
        refine g_nil <| g_qt <| g_ret <| g_qb_ret <| g_qt_ret ?_
        first | exact g_postA (rs := [.tmp 6]) rfl (.tmp rfl .nil) ⟨show Value.bool true = _ by (rw [d5 (by omega), decide_eq_true (by omega)]), rfl⟩ | exact g_postA (rs := [.tmp 6]) rfl (.tmp rfl .nil) ⟨show Value.bool (decide (i.2.2.2.1 = 2)) = _ by (rw [d5 (by omega)]; congr 1; exact decide_eq_decide.2 (by omega)), rfl⟩ | exact g_postA (rs := [.tmp 6]) rfl (.tmp rfl .nil) ⟨show Value.bool false = _ by (rw [d6 (by omega), decide_eq_false (by omega)]), rfl⟩ | exact g_postA (rs := [.tmp 6]) rfl (.tmp rfl .nil) ⟨show Value.bool (decide (i.2.2.2.2 ≤ 16)) = _ by (rw [d6 (by omega)]; congr 1; exact decide_eq_decide.2 (by omega)), rfl⟩ | exact g_postA (rs := [.tmp 6]) rfl (.tmp rfl .nil) ⟨show Value.bool false = _ by (rw [d7 (by omega), decide_eq_false (by omega)]), rfl⟩ | exact g_postA (rs := [.tmp 6]) rfl (.tmp rfl .nil) ⟨show Value.bool (decide (i.2.2.1 ≤ len)) = _ by (rw [d7 (by omega)]; congr 1; exact decide_eq_decide.2 (by omega)), rfl⟩ | exact g_postA (rs := [.tmp 6]) rfl (.tmp rfl .nil) ⟨show Value.bool true = _ by (rw [hE (by omega)]), rfl⟩
    · refine g_seq <| g_region ?_
      refine g_pure (p_eql rfl rfl) rfl ?_
      refine g_pure (p_assign rfl) rfl ?_
      refine g_nil <| g_qt ?_
      refine g_ifdL rfl (fun h3 => ?_) (fun h3 => ?_)
      · refine g_seq <| g_region ?_
        refine g_pure (p_fieldAddr rfl) rfl ?_
        refine g_pure (p_loadA) rfl ?_
        refine g_pure (p_geq rfl rfl) rfl ?_
        refine g_pure (p_move rfl) rfl ?_
        refine g_splitd rfl rfl (fun h4 => ?_) (fun h4 => ?_)
        · refine g_yes rfl rfl ?_
          refine g_pure (p_fieldAddr rfl) rfl ?_
          refine g_yes rfl rfl ?_
          refine g_pure (p_loadA) rfl ?_
          refine g_yes rfl rfl ?_
          refine g_pure (p_leq rfl rfl) rfl ?_
          first | refine g_pure (p_pickt rfl rfl) rfl ?_ | refine g_pure (p_pickf rfl rfl) rfl ?_
          refine g_pure (p_assign rfl) rfl ?_
          refine g_nil <| g_qt <| g_ret <| g_qb_ret <| g_qt_ret ?_
          first | exact g_postA (rs := [.tmp 6]) rfl (.tmp rfl .nil) ⟨show Value.bool true = _ by (rw [d5 (by omega), decide_eq_true (by omega)]), rfl⟩ | exact g_postA (rs := [.tmp 6]) rfl (.tmp rfl .nil) ⟨show Value.bool (decide (i.2.2.2.1 = 2)) = _ by (rw [d5 (by omega)]; congr 1; exact decide_eq_decide.2 (by omega)), rfl⟩ | exact g_postA (rs := [.tmp 6]) rfl (.tmp rfl .nil) ⟨show Value.bool false = _ by (rw [d6 (by omega), decide_eq_false (by omega)]), rfl⟩ | exact g_postA (rs := [.tmp 6]) rfl (.tmp rfl .nil) ⟨show Value.bool (decide (i.2.2.2.2 ≤ 16)) = _ by (rw [d6 (by omega)]; congr 1; exact decide_eq_decide.2 (by omega)), rfl⟩ | exact g_postA (rs := [.tmp 6]) rfl (.tmp rfl .nil) ⟨show Value.bool false = _ by (rw [d7 (by omega), decide_eq_false (by omega)]), rfl⟩ | exact g_postA (rs := [.tmp 6]) rfl (.tmp rfl .nil) ⟨show Value.bool (decide (i.2.2.1 ≤ len)) = _ by (rw [d7 (by omega)]; congr 1; exact decide_eq_decide.2 (by omega)), rfl⟩ | exact g_postA (rs := [.tmp 6]) rfl (.tmp rfl .nil) ⟨show Value.bool true = _ by (rw [hE (by omega)]), rfl⟩
        · refine g_no rfl rfl rfl rfl ?_
          refine g_no rfl rfl rfl rfl ?_
          refine g_no rfl rfl rfl rfl ?_
          first | refine g_pure (p_pickt rfl rfl) rfl ?_ | refine g_pure (p_pickf rfl rfl) rfl ?_
          refine g_pure (p_assign rfl) rfl ?_
          refine g_nil <| g_qt <| g_ret <| g_qb_ret <| g_qt_ret ?_
          first | exact g_postA (rs := [.tmp 6]) rfl (.tmp rfl .nil) ⟨show Value.bool true = _ by (rw [d5 (by omega), decide_eq_true (by omega)]), rfl⟩ | exact g_postA (rs := [.tmp 6]) rfl (.tmp rfl .nil) ⟨show Value.bool (decide (i.2.2.2.1 = 2)) = _ by (rw [d5 (by omega)]; congr 1; exact decide_eq_decide.2 (by omega)), rfl⟩ | exact g_postA (rs := [.tmp 6]) rfl (.tmp rfl .nil) ⟨show Value.bool false = _ by (rw [d6 (by omega), decide_eq_false (by omega)]), rfl⟩ | exact g_postA (rs := [.tmp 6]) rfl (.tmp rfl .nil) ⟨show Value.bool (decide (i.2.2.2.2 ≤ 16)) = _ by (rw [d6 (by omega)]; congr 1; exact decide_eq_decide.2 (by omega)), rfl⟩ | exact g_postA (rs := [.tmp 6]) rfl (.tmp rfl .nil) ⟨show Value.bool false = _ by (rw [d7 (by omega), decide_eq_false (by omega)]), rfl⟩ | exact g_postA (rs := [.tmp 6]) rfl (.tmp rfl .nil) ⟨show Value.bool (decide (i.2.2.1 ≤ len)) = _ by (rw [d7 (by omega)]; congr 1; exact decide_eq_decide.2 (by omega)), rfl⟩ | exact g_postA (rs := [.tmp 6]) rfl (.tmp rfl .nil) ⟨show Value.bool true = _ by (rw [hE (by omega)]), rfl⟩
      · refine g_seq <| g_seq <| g_region ?_
        refine g_pure (p_eql rfl rfl) rfl ?_
        refine g_pure (p_assign rfl) rfl ?_
        refine g_nil <| g_qt ?_
        refine g_ifdL rfl (fun h5 => ?_) (fun h5 => ?_)
        · refine g_skip <| g_qt ?_
          refine g_ift rfl ?_
          refine g_seq <| g_region ?_
          refine g_pure (p_fieldAddr rfl) rfl ?_
          refine g_pure (p_loadA) rfl ?_
          refine g_pure (p_move rfl) rfl ?_
          refine g_pure (p_gtr rfl rfl) rfl ?_
          refine g_pure (p_move rfl) rfl ?_
          refine g_splitd rfl rfl (fun h7 => ?_) (fun h7 => ?_)
          · refine g_yes rfl rfl ?_
            refine g_pure (p_fieldAddr rfl) rfl ?_
            refine g_yes rfl rfl ?_
            refine g_pure (p_loadA) rfl ?_
            refine g_yes rfl rfl ?_
            refine g_pure (p_move rfl) rfl ?_
            refine g_yes rfl rfl ?_
            refine g_pure (p_leq rfl rfl) rfl ?_
            first | refine g_pure (p_pickt rfl rfl) rfl ?_ | refine g_pure (p_pickf rfl rfl) rfl ?_
            refine g_pure (p_assign rfl) rfl ?_
            refine g_nil <| g_qt <| g_ret <| g_qb_ret <| g_qt_ret ?_
            first | exact g_postA (rs := [.tmp 6]) rfl (.tmp rfl .nil) ⟨show Value.bool true = _ by (rw [d5 (by omega), decide_eq_true (by omega)]), rfl⟩ | exact g_postA (rs := [.tmp 6]) rfl (.tmp rfl .nil) ⟨show Value.bool (decide (i.2.2.2.1 = 2)) = _ by (rw [d5 (by omega)]; congr 1; exact decide_eq_decide.2 (by omega)), rfl⟩ | exact g_postA (rs := [.tmp 6]) rfl (.tmp rfl .nil) ⟨show Value.bool false = _ by (rw [d6 (by omega), decide_eq_false (by omega)]), rfl⟩ | exact g_postA (rs := [.tmp 6]) rfl (.tmp rfl .nil) ⟨show Value.bool (decide (i.2.2.2.2 ≤ 16)) = _ by (rw [d6 (by omega)]; congr 1; exact decide_eq_decide.2 (by omega)), rfl⟩ | exact g_postA (rs := [.tmp 6]) rfl (.tmp rfl .nil) ⟨show Value.bool false = _ by (rw [d7 (by omega), decide_eq_false (by omega)]), rfl⟩ | exact g_postA (rs := [.tmp 6]) rfl (.tmp rfl .nil) ⟨show Value.bool (decide (i.2.2.1 ≤ len)) = _ by (rw [d7 (by omega)]; congr 1; exact decide_eq_decide.2 (by omega)), rfl⟩ | exact g_postA (rs := [.tmp 6]) rfl (.tmp rfl .nil) ⟨show Value.bool true = _ by (rw [hE (by omega)]), rfl⟩
          · refine g_no rfl rfl rfl rfl ?_
            refine g_no rfl rfl rfl rfl ?_
            refine g_no rfl rfl rfl rfl ?_
            refine g_no rfl rfl rfl rfl ?_
            first | refine g_pure (p_pickt rfl rfl) rfl ?_ | refine g_pure (p_pickf rfl rfl) rfl ?_
            refine g_pure (p_assign rfl) rfl ?_
            refine g_nil <| g_qt <| g_ret <| g_qb_ret <| g_qt_ret ?_
            first | exact g_postA (rs := [.tmp 6]) rfl (.tmp rfl .nil) ⟨show Value.bool true = _ by (rw [d5 (by omega), decide_eq_true (by omega)]), rfl⟩ | exact g_postA (rs := [.tmp 6]) rfl (.tmp rfl .nil) ⟨show Value.bool (decide (i.2.2.2.1 = 2)) = _ by (rw [d5 (by omega)]; congr 1; exact decide_eq_decide.2 (by omega)), rfl⟩ | exact g_postA (rs := [.tmp 6]) rfl (.tmp rfl .nil) ⟨show Value.bool false = _ by (rw [d6 (by omega), decide_eq_false (by omega)]), rfl⟩ | exact g_postA (rs := [.tmp 6]) rfl (.tmp rfl .nil) ⟨show Value.bool (decide (i.2.2.2.2 ≤ 16)) = _ by (rw [d6 (by omega)]; congr 1; exact decide_eq_decide.2 (by omega)), rfl⟩ | exact g_postA (rs := [.tmp 6]) rfl (.tmp rfl .nil) ⟨show Value.bool false = _ by (rw [d7 (by omega), decide_eq_false (by omega)]), rfl⟩ | exact g_postA (rs := [.tmp 6]) rfl (.tmp rfl .nil) ⟨show Value.bool (decide (i.2.2.1 ≤ len)) = _ by (rw [d7 (by omega)]; congr 1; exact decide_eq_decide.2 (by omega)), rfl⟩ | exact g_postA (rs := [.tmp 6]) rfl (.tmp rfl .nil) ⟨show Value.bool true = _ by (rw [hE (by omega)]), rfl⟩
        · refine g_region ?_
          refine g_pure (p_eql rfl rfl) rfl ?_
          refine g_pure (p_assign rfl) rfl ?_
          refine g_nil <| g_qt ?_
          refine g_ifdL rfl (fun h8 => ?_) (fun h8 => ?_)
          · refine g_seq <| g_region ?_
            refine g_pure (p_fieldAddr rfl) rfl ?_
            refine g_pure (p_loadA) rfl ?_
            refine g_pure (p_move rfl) rfl ?_
            refine g_pure (p_gtr rfl rfl) rfl ?_
            refine g_pure (p_move rfl) rfl ?_
            refine g_splitd rfl rfl (fun h9 => ?_) (fun h9 => ?_)
            · refine g_yes rfl rfl ?_
              refine g_pure (p_fieldAddr rfl) rfl ?_
              refine g_yes rfl rfl ?_
              refine g_pure (p_loadA) rfl ?_
              refine g_yes rfl rfl ?_
              refine g_pure (p_move rfl) rfl ?_
              refine g_yes rfl rfl ?_
              refine g_pure (p_leq rfl rfl) rfl ?_
              first | refine g_pure (p_pickt rfl rfl) rfl ?_ | refine g_pure (p_pickf rfl rfl) rfl ?_
              refine g_pure (p_assign rfl) rfl ?_
              refine g_nil <| g_qt <| g_ret <| g_qb_ret <| g_qt_ret ?_
              first | exact g_postA (rs := [.tmp 6]) rfl (.tmp rfl .nil) ⟨show Value.bool true = _ by (rw [d5 (by omega), decide_eq_true (by omega)]), rfl⟩ | exact g_postA (rs := [.tmp 6]) rfl (.tmp rfl .nil) ⟨show Value.bool (decide (i.2.2.2.1 = 2)) = _ by (rw [d5 (by omega)]; congr 1; exact decide_eq_decide.2 (by omega)), rfl⟩ | exact g_postA (rs := [.tmp 6]) rfl (.tmp rfl .nil) ⟨show Value.bool false = _ by (rw [d6 (by omega), decide_eq_false (by omega)]), rfl⟩ | exact g_postA (rs := [.tmp 6]) rfl (.tmp rfl .nil) ⟨show Value.bool (decide (i.2.2.2.2 ≤ 16)) = _ by (rw [d6 (by omega)]; congr 1; exact decide_eq_decide.2 (by omega)), rfl⟩ | exact g_postA (rs := [.tmp 6]) rfl (.tmp rfl .nil) ⟨show Value.bool false = _ by (rw [d7 (by omega), decide_eq_false (by omega)]), rfl⟩ | exact g_postA (rs := [.tmp 6]) rfl (.tmp rfl .nil) ⟨show Value.bool (decide (i.2.2.1 ≤ len)) = _ by (rw [d7 (by omega)]; congr 1; exact decide_eq_decide.2 (by omega)), rfl⟩ | exact g_postA (rs := [.tmp 6]) rfl (.tmp rfl .nil) ⟨show Value.bool true = _ by (rw [hE (by omega)]), rfl⟩
            · refine g_no rfl rfl rfl rfl ?_
              refine g_no rfl rfl rfl rfl ?_
              refine g_no rfl rfl rfl rfl ?_
              refine g_no rfl rfl rfl rfl ?_
              first | refine g_pure (p_pickt rfl rfl) rfl ?_ | refine g_pure (p_pickf rfl rfl) rfl ?_
              refine g_pure (p_assign rfl) rfl ?_
              refine g_nil <| g_qt <| g_ret <| g_qb_ret <| g_qt_ret ?_
              first | exact g_postA (rs := [.tmp 6]) rfl (.tmp rfl .nil) ⟨show Value.bool true = _ by (rw [d5 (by omega), decide_eq_true (by omega)]), rfl⟩ | exact g_postA (rs := [.tmp 6]) rfl (.tmp rfl .nil) ⟨show Value.bool (decide (i.2.2.2.1 = 2)) = _ by (rw [d5 (by omega)]; congr 1; exact decide_eq_decide.2 (by omega)), rfl⟩ | exact g_postA (rs := [.tmp 6]) rfl (.tmp rfl .nil) ⟨show Value.bool false = _ by (rw [d6 (by omega), decide_eq_false (by omega)]), rfl⟩ | exact g_postA (rs := [.tmp 6]) rfl (.tmp rfl .nil) ⟨show Value.bool (decide (i.2.2.2.2 ≤ 16)) = _ by (rw [d6 (by omega)]; congr 1; exact decide_eq_decide.2 (by omega)), rfl⟩ | exact g_postA (rs := [.tmp 6]) rfl (.tmp rfl .nil) ⟨show Value.bool false = _ by (rw [d7 (by omega), decide_eq_false (by omega)]), rfl⟩ | exact g_postA (rs := [.tmp 6]) rfl (.tmp rfl .nil) ⟨show Value.bool (decide (i.2.2.1 ≤ len)) = _ by (rw [d7 (by omega)]; congr 1; exact decide_eq_decide.2 (by omega)), rfl⟩ | exact g_postA (rs := [.tmp 6]) rfl (.tmp rfl .nil) ⟨show Value.bool true = _ by (rw [hE (by omega)]), rfl⟩
          · refine g_skip <| g_qb <| g_qt <| g_seq <| g_region ?_
            refine g_pure (p_assign rfl) rfl ?_
            refine g_nil <| g_qt <| g_ret ?_
            first | exact g_postA (rs := [.tmp 6]) rfl (.tmp rfl .nil) ⟨show Value.bool true = _ by (rw [d5 (by omega), decide_eq_true (by omega)]), rfl⟩ | exact g_postA (rs := [.tmp 6]) rfl (.tmp rfl .nil) ⟨show Value.bool (decide (i.2.2.2.1 = 2)) = _ by (rw [d5 (by omega)]; congr 1; exact decide_eq_decide.2 (by omega)), rfl⟩ | exact g_postA (rs := [.tmp 6]) rfl (.tmp rfl .nil) ⟨show Value.bool false = _ by (rw [d6 (by omega), decide_eq_false (by omega)]), rfl⟩ | exact g_postA (rs := [.tmp 6]) rfl (.tmp rfl .nil) ⟨show Value.bool (decide (i.2.2.2.2 ≤ 16)) = _ by (rw [d6 (by omega)]; congr 1; exact decide_eq_decide.2 (by omega)), rfl⟩ | exact g_postA (rs := [.tmp 6]) rfl (.tmp rfl .nil) ⟨show Value.bool false = _ by (rw [d7 (by omega), decide_eq_false (by omega)]), rfl⟩ | exact g_postA (rs := [.tmp 6]) rfl (.tmp rfl .nil) ⟨show Value.bool (decide (i.2.2.1 ≤ len)) = _ by (rw [d7 (by omega)]; congr 1; exact decide_eq_decide.2 (by omega)), rfl⟩ | exact g_postA (rs := [.tmp 6]) rfl (.tmp rfl .nil) ⟨show Value.bool true = _ by (rw [hE (by omega)]), rfl⟩

theorem rranges_ok {ρ : Nat → Obj → Prop} {ea ra : Option Addr} {ec rc : Nat} {im : Im} (h : ImI ρ ea ra im) (kr : Nat) (hkr : kr < im.2.length) (i : Ins) :
    Con Tryz.prog ρ 67 #[.agg #[.slice ea im.1.length ec, .slice ra im.2.length rc], .int .i64 kr, .agg (encIns i).toArray] [] (fun v H => v = .bool (rangesP im.2 kr i) ∧ H = []) := by
  rw [ranges_ref im.2 kr hkr i]
  have hrl := h.rl
  obtain ⟨b, off, cs, T, fz, r1, r2, r3⟩ := h.rs (by omega)
  obtain ⟨row, q1, q2, q3⟩ := r3 kr hkr
  have hok := h.ok im.2[kr] (List.getElem_mem hkr)
  have hcok := calledP_len h.ok i.2.1
  obtain ⟨y, hy⟩ : ∃ y, calledP im.2 i.2.1 = y := ⟨_, rfl⟩
  obtain ⟨ja, jc, pa, pc, qa, qc, sa, sc, hrow⟩ : ∃ ja jc pa pc qa qc sa sc, 0 ≤ i.2.1 ∧ i.2.1 < kr → sub cs (off + i.2.1.toNat * 6) 6 = some [.string (strB y.1), .slice ja y.2.1.length jc, .slice pa y.2.2.1.length pc, .int .i64 y.2.2.2.1, .slice qa y.2.2.2.2.1.length qc, .slice sa y.2.2.2.2.2.length sc] := by
    by_cases hA : 0 ≤ i.2.1 ∧ i.2.1 < kr
    · have hl : i.2.1.toNat < im.2.length := by omega
      obtain ⟨rw', w1, w2, w3⟩ := r3 i.2.1.toNat hl
      have he : im.2[i.2.1.toNat] = y := by
        rw [← hy]; unfold calledP
        rw [if_neg (by omega), List.getD_eq_getElem?_getD, List.getElem?_eq_getElem hl]; rfl
      rw [he] at w1
      obtain ⟨ja, jc, pa, pc, qa, qc, sa, sc, e0, _⟩ := w1
      exact ⟨ja, jc, pa, pc, qa, qc, sa, sc, fun _ => by rw [w2, e0]⟩
    · exact ⟨none, 0, none, 0, none, 0, none, 0, fun h => absurd h hA⟩
  rw [hy] at hcok
  generalize im.2[kr] = x0 at q1 hok
  obtain ⟨ia, ic, oa, oc, na, nc, ca, cc, e0, _⟩ := q1
  subst e0
  have hg64 := hok.ri
  have hzl := hok.zl
  have hcz := hcok.zl
  have hci := hcok.il
  have hco := hcok.ol
  obtain ⟨R, hR⟩ : ∃ R, rangesR im.2 kr x0 i = R := ⟨_, rfl⟩
  obtain ⟨d1, d2, d3, d4, d6, d8, d9, d10, dE⟩ := ranges_cases im.2 kr x0 i hy hR rfl rfl
  rw [hR]
  obtain ⟨hg1, hg2⟩ := id hg64
  refine con_intro Tryz.func67 Tryz.call67 rfl Tryz.ntmps67 rfl (L := [(0, _), (1, _), (2, _)]) rfl fun w hh => ?_
  refine g_seq <| g_region ?_
  refine g_eff (e_box rfl (by rfl)) rfl (fun _ _ => ?_)
  rintro ⟨b3, rfl, rfl⟩
  refine g_eff (e_box rfl (by rfl)) rfl (fun _ _ => ?_)
  rintro ⟨b5, rfl, rfl⟩
  refine g_pure (p_assign rfl) rfl ?_
  refine g_nil <| g_qt <| g_seq <| g_region ?_
  refine g_pure (p_fieldAddr rfl) rfl ?_
  refine g_pure (p_loadA) rfl ?_
  refine g_pure (p_move rfl) rfl ?_
  refine g_pure (p_indexAddr rfl rfl (by omega) (fun _ => r1)) rfl ?_
  refine g_pure (p_loadN (by rfl) rfl (Has.ro r2) (by rw [Int.toNat_natCast]; exact q2)) rfl ?_
  refine g_eff (e_alloc (by rfl)) rfl (fun _ _ => ?_)
  rintro ⟨b7, rfl, rfl⟩
  first | refine g_eff0 (e_storeO rfl rfl (by rfl) (by rfl) (by rfl) (by repeat' (first | exact Take.here | apply Take.there)) (by rfl)) (fun _ _ => ?_) | refine g_eff0 (e_storeN rfl rfl (by rfl) (by rfl) (by rfl) (by repeat' (first | exact Take.here | apply Take.there)) (by simp)) (fun _ _ => ?_)
  rintro rfl
  refine g_nil <| g_qt <| g_seq ?_
  refine m_begin0 (.fl 0 0 (.fl 1 1 (.fl 2 0 (.fl 3 1 (.fl 4 0 (.fl 5 0 (.fl 6 0 .done))))))) (by kernel_rfl) (by kernel_rfl) ?_
  refine m_float0 rfl (fun _ _ => p_fieldAddr rfl) rfl ?_
  refine m_float rfl (p_loadA) rfl ?_
  refine m_float0 rfl (fun _ _ => p_fieldAddr rfl) rfl ?_
  refine m_float rfl (p_loadA) rfl ?_
  refine m_float0 rfl (fun _ _ => p_len (by rfl) rfl) rfl ?_
  refine m_float0 rfl (fun _ _ => p_assign rfl) rfl ?_
  refine m_float0 rfl (fun _ _ => p_assign rfl) rfl ?_
  refine m_nil ?_
  refine g_qt <| g_seq <| g_seq <| g_region ?_
  refine g_pure (p_fieldAddr rfl) rfl ?_
  refine g_pure (p_loadA) rfl ?_
  refine g_nil <| g_qt <| g_block <| g_seq <| g_region ?_
  refine g_pure (p_eql rfl rfl) rfl ?_
  refine g_pure (p_assign rfl) rfl ?_
  refine g_nil <| g_qt ?_
  refine g_ifdL rfl (fun h1 => ?_) (fun h1 => ?_)
  · refine g_seq <| g_region ?_
    refine g_pure (p_fieldAddr rfl) rfl ?_
    refine g_pure (p_loadA) rfl ?_
    refine g_pure (p_move rfl) rfl ?_
    refine g_call (Hin := []) (Hr := ?hr4) (R := ?rr4) rfl rfl rfl ?hin4 ?hc4 ?hk4
    case hin4 => repeat' (first | exact Cover.nil | exact Take.here | apply Cover.cons | apply Take.there)
    case hc4 => intro ρ' hρ hR; exact rwi_ok i.2.1 1 x0.2.2.2.1 hg64
    rintro _ _ ⟨rfl, rfl⟩
    refine g_pure (p_move rfl) rfl ?_
    refine g_splitd rfl rfl (fun h2 => ?_) (fun h2 => ?_)
    · refine g_yes rfl rfl ?_
      refine g_pure (p_fieldAddr rfl) rfl ?_
      refine g_yes rfl rfl ?_
      refine g_pure (p_loadA) rfl ?_
      refine g_yes rfl rfl ?_
      refine g_pure (p_geq rfl rfl) rfl ?_
      first | refine g_pure (p_pickt rfl rfl) rfl ?_ | refine g_pure (p_pickf rfl rfl) rfl ?_
      refine g_pure (p_move rfl) rfl ?_
      refine g_splitd rfl rfl (fun h3 => ?_) (fun h3 => ?_)
      · refine g_yes rfl rfl ?_
        refine g_pure (p_fieldAddr rfl) rfl ?_
        refine g_yes rfl rfl ?_
        refine g_pure (p_loadA) rfl ?_
        refine g_yes rfl rfl ?_
        refine g_pure (p_leq rfl rfl) rfl ?_
        first | refine g_pure (p_pickt rfl rfl) rfl ?_ | refine g_pure (p_pickf rfl rfl) rfl ?_
        refine g_pure (p_assign rfl) rfl ?_
        refine g_nil <| g_qt <| g_ret <| g_qb_ret <| g_qt_ret ?_
        refine g_post (rs := [.tmp 6]) rfl (.tmp rfl .nil) ⟨?_, rfl⟩ (by repeat' (first | exact Cover.nil | exact Take.here | apply Cover.cons | apply Take.there))
        (first | rw [d1 (by omega)] | rw [d2 (by omega)] | rw [d3 (by omega)] | rw [d4 (by omega)] | rw [d6 (by omega)] | rw [d8 (by omega)] | rw [d9 (by omega)] | rw [d10 (by omega)] | rw [dE (by omega) (by omega)])
        (first | rfl | exact congrArg Value.bool (decide_eq_false (by omega)).symm | exact congrArg Value.bool (decide_eq_true (by omega)).symm | exact congrArg Value.bool (decide_eq_decide.2 (by omega)))
      · refine g_no rfl rfl rfl rfl ?_
        refine g_no rfl rfl rfl rfl ?_
        refine g_no rfl rfl rfl rfl ?_
        first | refine g_pure (p_pickt rfl rfl) rfl ?_ | refine g_pure (p_pickf rfl rfl) rfl ?_
        refine g_pure (p_assign rfl) rfl ?_
        refine g_nil <| g_qt <| g_ret <| g_qb_ret <| g_qt_ret ?_
        refine g_post (rs := [.tmp 6]) rfl (.tmp rfl .nil) ⟨?_, rfl⟩ (by repeat' (first | exact Cover.nil | exact Take.here | apply Cover.cons | apply Take.there))
        (first | rw [d1 (by omega)] | rw [d2 (by omega)] | rw [d3 (by omega)] | rw [d4 (by omega)] | rw [d6 (by omega)] | rw [d8 (by omega)] | rw [d9 (by omega)] | rw [d10 (by omega)] | rw [dE (by omega) (by omega)])
        (first | rfl | exact congrArg Value.bool (decide_eq_false (by omega)).symm | exact congrArg Value.bool (decide_eq_true (by omega)).symm | exact congrArg Value.bool (decide_eq_decide.2 (by omega)))
    · refine g_no rfl rfl rfl rfl ?_
      refine g_no rfl rfl rfl rfl ?_
      refine g_no rfl rfl rfl rfl ?_
      first | refine g_pure (p_pickt rfl rfl) rfl ?_ | refine g_pure (p_pickf rfl rfl) rfl ?_
      refine g_pure (p_move rfl) rfl ?_
      refine g_no rfl rfl rfl rfl ?_
      refine g_no rfl rfl rfl rfl ?_
      refine g_no rfl rfl rfl rfl ?_
      first | refine g_pure (p_pickt rfl rfl) rfl ?_ | refine g_pure (p_pickf rfl rfl) rfl ?_
      refine g_pure (p_assign rfl) rfl ?_
      refine g_nil <| g_qt <| g_ret <| g_qb_ret <| g_qt_ret ?_
      refine g_post (rs := [.tmp 6]) rfl (.tmp rfl .nil) ⟨?_, rfl⟩ (by repeat' (first | exact Cover.nil | exact Take.here | apply Cover.cons | apply Take.there))
      (first | rw [d1 (by omega)] | rw [d2 (by omega)] | rw [d3 (by omega)] | rw [d4 (by omega)] | rw [d6 (by omega)] | rw [d8 (by omega)] | rw [d9 (by omega)] | rw [d10 (by omega)] | rw [dE (by omega) (by omega)])
      (first | rfl | exact congrArg Value.bool (decide_eq_false (by omega)).symm | exact congrArg Value.bool (decide_eq_true (by omega)).symm | exact congrArg Value.bool (decide_eq_decide.2 (by omega)))
  · refine g_seq <| g_seq <| g_region ?_
    refine g_pure (p_eql rfl rfl) rfl ?_
    refine g_pure (p_assign rfl) rfl ?_
    refine g_nil <| g_qt ?_
    refine g_ifdL rfl (fun h5 => ?_) (fun h5 => ?_)
    · refine g_skip <| g_qt ?_
      refine g_ift rfl ?_
      refine g_seq <| g_region ?_
      refine g_pure (p_fieldAddr rfl) rfl ?_
      refine g_pure (p_loadA) rfl ?_
      refine g_pure (p_move rfl) rfl ?_
      refine g_call (Hin := []) (Hr := ?hr5) (R := ?rr5) rfl rfl rfl ?hin5 ?hc5 ?hk5
      case hin5 => repeat' (first | exact Cover.nil | exact Take.here | apply Cover.cons | apply Take.there)
      case hc5 => intro ρ' hρ hR; exact rwi_ok i.2.1 1 x0.2.2.2.1 hg64
      rintro _ _ ⟨rfl, rfl⟩
      refine g_pure (p_move rfl) rfl ?_
      refine g_splitd rfl rfl (fun h7 => ?_) (fun h7 => ?_)
      · refine g_yes rfl rfl ?_
        refine g_pure (p_fieldAddr rfl) rfl ?_
        refine g_yes rfl rfl ?_
        refine g_pure (p_loadA) rfl ?_
        refine g_yes rfl rfl ?_
        refine g_pure (p_move rfl) rfl ?_
        refine g_yes rfl rfl ?_
        refine g_call (Hin := []) (Hr := ?hr6) (R := ?rr6) rfl rfl rfl ?hin6 ?hc6 ?hk6
        case hin6 => repeat' (first | exact Cover.nil | exact Take.here | apply Cover.cons | apply Take.there)
        case hc6 => intro ρ' hρ hR; exact rwi_ok i.2.2.1 1 x0.2.2.2.1 hg64
        rintro _ _ ⟨rfl, rfl⟩
        first | refine g_pure (p_pickt rfl rfl) rfl ?_ | refine g_pure (p_pickf rfl rfl) rfl ?_
        refine g_pure (p_assign rfl) rfl ?_
        refine g_nil <| g_qt <| g_ret <| g_qb_ret <| g_qt_ret ?_
        refine g_post (rs := [.tmp 6]) rfl (.tmp rfl .nil) ⟨?_, rfl⟩ (by repeat' (first | exact Cover.nil | exact Take.here | apply Cover.cons | apply Take.there))
        (first | rw [d1 (by omega)] | rw [d2 (by omega)] | rw [d3 (by omega)] | rw [d4 (by omega)] | rw [d6 (by omega)] | rw [d8 (by omega)] | rw [d9 (by omega)] | rw [d10 (by omega)] | rw [dE (by omega) (by omega)])
        (first | rfl | exact congrArg Value.bool (decide_eq_false (by omega)).symm | exact congrArg Value.bool (decide_eq_true (by omega)).symm | exact congrArg Value.bool (decide_eq_decide.2 (by omega)))
      · refine g_no rfl rfl rfl rfl ?_
        refine g_no rfl rfl rfl rfl ?_
        refine g_no rfl rfl rfl rfl ?_
        refine g_no rfl rfl rfl rfl ?_
        first | refine g_pure (p_pickt rfl rfl) rfl ?_ | refine g_pure (p_pickf rfl rfl) rfl ?_
        refine g_pure (p_assign rfl) rfl ?_
        refine g_nil <| g_qt <| g_ret <| g_qb_ret <| g_qt_ret ?_
        refine g_post (rs := [.tmp 6]) rfl (.tmp rfl .nil) ⟨?_, rfl⟩ (by repeat' (first | exact Cover.nil | exact Take.here | apply Cover.cons | apply Take.there))
        (first | rw [d1 (by omega)] | rw [d2 (by omega)] | rw [d3 (by omega)] | rw [d4 (by omega)] | rw [d6 (by omega)] | rw [d8 (by omega)] | rw [d9 (by omega)] | rw [d10 (by omega)] | rw [dE (by omega) (by omega)])
        (first | rfl | exact congrArg Value.bool (decide_eq_false (by omega)).symm | exact congrArg Value.bool (decide_eq_true (by omega)).symm | exact congrArg Value.bool (decide_eq_decide.2 (by omega)))
    · refine g_region ?_
      refine g_pure (p_eql rfl rfl) rfl ?_
      refine g_pure (p_assign rfl) rfl ?_
      refine g_nil <| g_qt ?_
      refine g_ifdL rfl (fun h8 => ?_) (fun h8 => ?_)
      · refine g_seq <| g_region ?_
        refine g_pure (p_fieldAddr rfl) rfl ?_
        refine g_pure (p_loadA) rfl ?_
        refine g_pure (p_move rfl) rfl ?_
        refine g_call (Hin := []) (Hr := ?hr7) (R := ?rr7) rfl rfl rfl ?hin7 ?hc7 ?hk7
        case hin7 => repeat' (first | exact Cover.nil | exact Take.here | apply Cover.cons | apply Take.there)
        case hc7 => intro ρ' hρ hR; exact rwi_ok i.2.1 1 x0.2.2.2.1 hg64
        rintro _ _ ⟨rfl, rfl⟩
        refine g_pure (p_move rfl) rfl ?_
        refine g_splitd rfl rfl (fun h9 => ?_) (fun h9 => ?_)
        · refine g_yes rfl rfl ?_
          refine g_pure (p_fieldAddr rfl) rfl ?_
          refine g_yes rfl rfl ?_
          refine g_pure (p_loadA) rfl ?_
          refine g_yes rfl rfl ?_
          refine g_pure (p_move rfl) rfl ?_
          refine g_yes rfl rfl ?_
          refine g_call (Hin := []) (Hr := ?hr8) (R := ?rr8) rfl rfl rfl ?hin8 ?hc8 ?hk8
          case hin8 => repeat' (first | exact Cover.nil | exact Take.here | apply Cover.cons | apply Take.there)
          case hc8 => intro ρ' hρ hR; exact rwi_ok i.2.2.1 1 x0.2.2.2.1 hg64
          rintro _ _ ⟨rfl, rfl⟩
          first | refine g_pure (p_pickt rfl rfl) rfl ?_ | refine g_pure (p_pickf rfl rfl) rfl ?_
          refine g_pure (p_assign rfl) rfl ?_
          refine g_nil <| g_qt <| g_ret <| g_qb_ret <| g_qt_ret ?_
          refine g_post (rs := [.tmp 6]) rfl (.tmp rfl .nil) ⟨?_, rfl⟩ (by repeat' (first | exact Cover.nil | exact Take.here | apply Cover.cons | apply Take.there))
          (first | rw [d1 (by omega)] | rw [d2 (by omega)] | rw [d3 (by omega)] | rw [d4 (by omega)] | rw [d6 (by omega)] | rw [d8 (by omega)] | rw [d9 (by omega)] | rw [d10 (by omega)] | rw [dE (by omega) (by omega)])
          (first | rfl | exact congrArg Value.bool (decide_eq_false (by omega)).symm | exact congrArg Value.bool (decide_eq_true (by omega)).symm | exact congrArg Value.bool (decide_eq_decide.2 (by omega)))
        · refine g_no rfl rfl rfl rfl ?_
          refine g_no rfl rfl rfl rfl ?_
          refine g_no rfl rfl rfl rfl ?_
          refine g_no rfl rfl rfl rfl ?_
          first | refine g_pure (p_pickt rfl rfl) rfl ?_ | refine g_pure (p_pickf rfl rfl) rfl ?_
          refine g_pure (p_assign rfl) rfl ?_
          refine g_nil <| g_qt <| g_ret <| g_qb_ret <| g_qt_ret ?_
          refine g_post (rs := [.tmp 6]) rfl (.tmp rfl .nil) ⟨?_, rfl⟩ (by repeat' (first | exact Cover.nil | exact Take.here | apply Cover.cons | apply Take.there))
          (first | rw [d1 (by omega)] | rw [d2 (by omega)] | rw [d3 (by omega)] | rw [d4 (by omega)] | rw [d6 (by omega)] | rw [d8 (by omega)] | rw [d9 (by omega)] | rw [d10 (by omega)] | rw [dE (by omega) (by omega)])
          (first | rfl | exact congrArg Value.bool (decide_eq_false (by omega)).symm | exact congrArg Value.bool (decide_eq_true (by omega)).symm | exact congrArg Value.bool (decide_eq_decide.2 (by omega)))
      · refine g_seq <| g_region ?_
        refine g_pure (p_eql rfl rfl) rfl ?_
        refine g_pure (p_assign rfl) rfl ?_
        refine g_nil <| g_qt ?_
        refine g_ifdL rfl (fun h10 => ?_) (fun h10 => ?_)
        · refine g_seq <| g_region ?_
          refine g_pure (p_fieldAddr rfl) rfl ?_
          refine g_pure (p_loadA) rfl ?_
          refine g_pure (p_move rfl) rfl ?_
          refine g_call (Hin := []) (Hr := ?hr9) (R := ?rr9) rfl rfl rfl ?hin9 ?hc9 ?hk9
          case hin9 => repeat' (first | exact Cover.nil | exact Take.here | apply Cover.cons | apply Take.there)
          case hc9 => intro ρ' hρ hR; exact rwi_ok i.2.1 1 x0.2.2.2.1 hg64
          rintro _ _ ⟨rfl, rfl⟩
          refine g_pure (p_move rfl) rfl ?_
          refine g_splitd rfl rfl (fun h11 => ?_) (fun h11 => ?_)
          · refine g_yes rfl rfl ?_
            refine g_pure (p_fieldAddr rfl) rfl ?_
            refine g_yes rfl rfl ?_
            refine g_pure (p_loadA) rfl ?_
            refine g_yes rfl rfl ?_
            refine g_pure (p_move rfl) rfl ?_
            refine g_yes rfl rfl ?_
            refine g_call (Hin := []) (Hr := ?hr10) (R := ?rr10) rfl rfl rfl ?hin10 ?hc10 ?hk10
            case hin10 => repeat' (first | exact Cover.nil | exact Take.here | apply Cover.cons | apply Take.there)
            case hc10 => intro ρ' hρ hR; exact rwi_ok i.2.2.1 1 (x0.2.2.2.2.1.length : Int) (by unfold I64; omega)
            rintro _ _ ⟨rfl, rfl⟩
            first | refine g_pure (p_pickt rfl rfl) rfl ?_ | refine g_pure (p_pickf rfl rfl) rfl ?_
            refine g_pure (p_assign rfl) rfl ?_
            refine g_nil <| g_qt <| g_ret <| g_qb_ret <| g_qt_ret ?_
            refine g_post (rs := [.tmp 6]) rfl (.tmp rfl .nil) ⟨?_, rfl⟩ (by repeat' (first | exact Cover.nil | exact Take.here | apply Cover.cons | apply Take.there))
            (first | rw [d1 (by omega)] | rw [d2 (by omega)] | rw [d3 (by omega)] | rw [d4 (by omega)] | rw [d6 (by omega)] | rw [d8 (by omega)] | rw [d9 (by omega)] | rw [d10 (by omega)] | rw [dE (by omega) (by omega)])
            (first | rfl | exact congrArg Value.bool (decide_eq_false (by omega)).symm | exact congrArg Value.bool (decide_eq_true (by omega)).symm | exact congrArg Value.bool (decide_eq_decide.2 (by omega)))
          · refine g_no rfl rfl rfl rfl ?_
            refine g_no rfl rfl rfl rfl ?_
            refine g_no rfl rfl rfl rfl ?_
            refine g_no rfl rfl rfl rfl ?_
            first | refine g_pure (p_pickt rfl rfl) rfl ?_ | refine g_pure (p_pickf rfl rfl) rfl ?_
            refine g_pure (p_assign rfl) rfl ?_
            refine g_nil <| g_qt <| g_ret <| g_qb_ret <| g_qt_ret ?_
            refine g_post (rs := [.tmp 6]) rfl (.tmp rfl .nil) ⟨?_, rfl⟩ (by repeat' (first | exact Cover.nil | exact Take.here | apply Cover.cons | apply Take.there))
            (first | rw [d1 (by omega)] | rw [d2 (by omega)] | rw [d3 (by omega)] | rw [d4 (by omega)] | rw [d6 (by omega)] | rw [d8 (by omega)] | rw [d9 (by omega)] | rw [d10 (by omega)] | rw [dE (by omega) (by omega)])
            (first | rfl | exact congrArg Value.bool (decide_eq_false (by omega)).symm | exact congrArg Value.bool (decide_eq_true (by omega)).symm | exact congrArg Value.bool (decide_eq_decide.2 (by omega)))
        · refine g_seq <| g_region ?_
          refine g_pure (p_eql rfl rfl) rfl ?_
          refine g_pure (p_assign rfl) rfl ?_
          refine g_nil <| g_qt ?_
          refine g_ifdL rfl (fun h12 => ?_) (fun h12 => ?_)
          · refine g_seq <| g_region ?_
            refine g_pure (p_fieldAddr rfl) rfl ?_
            refine g_pure (p_loadA) rfl ?_
            refine g_pure (p_move rfl) rfl ?_
            refine g_call (Hin := []) (Hr := ?hr11) (R := ?rr11) rfl rfl rfl ?hin11 ?hc11 ?hk11
            case hin11 => repeat' (first | exact Cover.nil | exact Take.here | apply Cover.cons | apply Take.there)
            case hc11 => intro ρ' hρ hR; exact rwi_ok i.2.1 1 (x0.2.2.2.2.1.length : Int) (by unfold I64; omega)
            rintro _ _ ⟨rfl, rfl⟩
            refine g_pure (p_move rfl) rfl ?_
            refine g_splitd rfl rfl (fun h13 => ?_) (fun h13 => ?_)
            · refine g_yes rfl rfl ?_
              refine g_pure (p_fieldAddr rfl) rfl ?_
              refine g_yes rfl rfl ?_
              refine g_pure (p_loadA) rfl ?_
              refine g_yes rfl rfl ?_
              refine g_pure (p_move rfl) rfl ?_
              refine g_yes rfl rfl ?_
              refine g_call (Hin := []) (Hr := ?hr12) (R := ?rr12) rfl rfl rfl ?hin12 ?hc12 ?hk12
              case hin12 => repeat' (first | exact Cover.nil | exact Take.here | apply Cover.cons | apply Take.there)
              case hc12 => intro ρ' hρ hR; exact rwi_ok i.2.2.1 1 x0.2.2.2.1 hg64
              rintro _ _ ⟨rfl, rfl⟩
              first | refine g_pure (p_pickt rfl rfl) rfl ?_ | refine g_pure (p_pickf rfl rfl) rfl ?_
              refine g_pure (p_assign rfl) rfl ?_
              refine g_nil <| g_qt <| g_ret <| g_qb_ret <| g_qt_ret ?_
              refine g_post (rs := [.tmp 6]) rfl (.tmp rfl .nil) ⟨?_, rfl⟩ (by repeat' (first | exact Cover.nil | exact Take.here | apply Cover.cons | apply Take.there))
              (first | rw [d1 (by omega)] | rw [d2 (by omega)] | rw [d3 (by omega)] | rw [d4 (by omega)] | rw [d6 (by omega)] | rw [d8 (by omega)] | rw [d9 (by omega)] | rw [d10 (by omega)] | rw [dE (by omega) (by omega)])
              (first | rfl | exact congrArg Value.bool (decide_eq_false (by omega)).symm | exact congrArg Value.bool (decide_eq_true (by omega)).symm | exact congrArg Value.bool (decide_eq_decide.2 (by omega)))
            · refine g_no rfl rfl rfl rfl ?_
              refine g_no rfl rfl rfl rfl ?_
              refine g_no rfl rfl rfl rfl ?_
              refine g_no rfl rfl rfl rfl ?_
              first | refine g_pure (p_pickt rfl rfl) rfl ?_ | refine g_pure (p_pickf rfl rfl) rfl ?_
              refine g_pure (p_assign rfl) rfl ?_
              refine g_nil <| g_qt <| g_ret <| g_qb_ret <| g_qt_ret ?_
              refine g_post (rs := [.tmp 6]) rfl (.tmp rfl .nil) ⟨?_, rfl⟩ (by repeat' (first | exact Cover.nil | exact Take.here | apply Cover.cons | apply Take.there))
              (first | rw [d1 (by omega)] | rw [d2 (by omega)] | rw [d3 (by omega)] | rw [d4 (by omega)] | rw [d6 (by omega)] | rw [d8 (by omega)] | rw [d9 (by omega)] | rw [d10 (by omega)] | rw [dE (by omega) (by omega)])
              (first | rfl | exact congrArg Value.bool (decide_eq_false (by omega)).symm | exact congrArg Value.bool (decide_eq_true (by omega)).symm | exact congrArg Value.bool (decide_eq_decide.2 (by omega)))
          · refine g_seq <| g_region ?_
            refine g_pure (p_eql rfl rfl) rfl ?_
            refine g_pure (p_assign rfl) rfl ?_
            refine g_nil <| g_qt ?_
            refine g_ifdL rfl (fun h14 => ?_) (fun h14 => ?_)
            · refine g_seq <| g_region ?_
              refine g_pure (p_fieldAddr rfl) rfl ?_
              refine g_pure (p_loadA) rfl ?_
              refine g_pure (p_move rfl) rfl ?_
              refine g_call (Hin := []) (Hr := ?hr13) (R := ?rr13) rfl rfl rfl ?hin13 ?hc13 ?hk13
              case hin13 => repeat' (first | exact Cover.nil | exact Take.here | apply Cover.cons | apply Take.there)
              case hc13 => intro ρ' hρ hR; exact rwi_ok i.2.1 1 x0.2.2.2.1 hg64
              rintro _ _ ⟨rfl, rfl⟩
              refine g_pure (p_move rfl) rfl ?_
              refine g_splitd rfl rfl (fun h15 => ?_) (fun h15 => ?_)
              · refine g_yes rfl rfl ?_
                refine g_pure (p_fieldAddr rfl) rfl ?_
                refine g_yes rfl rfl ?_
                refine g_pure (p_loadA) rfl ?_
                refine g_yes rfl rfl ?_
                refine g_pure (p_move rfl) rfl ?_
                refine g_yes rfl rfl ?_
                refine g_call (Hin := []) (Hr := ?hr14) (R := ?rr14) rfl rfl rfl ?hin14 ?hc14 ?hk14
                case hin14 => repeat' (first | exact Cover.nil | exact Take.here | apply Cover.cons | apply Take.there)
                case hc14 => intro ρ' hρ hR; exact rwi_ok i.2.2.1 1 x0.2.2.2.1 hg64
                rintro _ _ ⟨rfl, rfl⟩
                first | refine g_pure (p_pickt rfl rfl) rfl ?_ | refine g_pure (p_pickf rfl rfl) rfl ?_
                refine g_pure (p_move rfl) rfl ?_
                refine g_splitd rfl rfl (fun h16 => ?_) (fun h16 => ?_)
                · refine g_yes rfl rfl ?_
                  refine g_pure (p_fieldAddr rfl) rfl ?_
                  refine g_yes rfl rfl ?_
                  refine g_pure (p_loadA) rfl ?_
                  refine g_yes rfl rfl ?_
                  refine g_pure (p_move rfl) rfl ?_
                  refine g_yes rfl rfl ?_
                  refine g_call (Hin := []) (Hr := ?hr15) (R := ?rr15) rfl rfl rfl ?hin15 ?hc15 ?hk15
                  case hin15 => repeat' (first | exact Cover.nil | exact Take.here | apply Cover.cons | apply Take.there)
                  case hc15 => intro ρ' hρ hR; exact rwi_ok i.2.2.2.1 1 x0.2.2.2.1 hg64
                  rintro _ _ ⟨rfl, rfl⟩
                  first | refine g_pure (p_pickt rfl rfl) rfl ?_ | refine g_pure (p_pickf rfl rfl) rfl ?_
                  refine g_pure (p_assign rfl) rfl ?_
                  refine g_nil <| g_qt <| g_ret <| g_qb_ret <| g_qt_ret ?_
                  refine g_post (rs := [.tmp 6]) rfl (.tmp rfl .nil) ⟨?_, rfl⟩ (by repeat' (first | exact Cover.nil | exact Take.here | apply Cover.cons | apply Take.there))
                  (first | rw [d1 (by omega)] | rw [d2 (by omega)] | rw [d3 (by omega)] | rw [d4 (by omega)] | rw [d6 (by omega)] | rw [d8 (by omega)] | rw [d9 (by omega)] | rw [d10 (by omega)] | rw [dE (by omega) (by omega)])
                  (first | rfl | exact congrArg Value.bool (decide_eq_false (by omega)).symm | exact congrArg Value.bool (decide_eq_true (by omega)).symm | exact congrArg Value.bool (decide_eq_decide.2 (by omega)))
                · refine g_no rfl rfl rfl rfl ?_
                  refine g_no rfl rfl rfl rfl ?_
                  refine g_no rfl rfl rfl rfl ?_
                  refine g_no rfl rfl rfl rfl ?_
                  first | refine g_pure (p_pickt rfl rfl) rfl ?_ | refine g_pure (p_pickf rfl rfl) rfl ?_
                  refine g_pure (p_assign rfl) rfl ?_
                  refine g_nil <| g_qt <| g_ret <| g_qb_ret <| g_qt_ret ?_
                  refine g_post (rs := [.tmp 6]) rfl (.tmp rfl .nil) ⟨?_, rfl⟩ (by repeat' (first | exact Cover.nil | exact Take.here | apply Cover.cons | apply Take.there))
                  (first | rw [d1 (by omega)] | rw [d2 (by omega)] | rw [d3 (by omega)] | rw [d4 (by omega)] | rw [d6 (by omega)] | rw [d8 (by omega)] | rw [d9 (by omega)] | rw [d10 (by omega)] | rw [dE (by omega) (by omega)])
                  (first | rfl | exact congrArg Value.bool (decide_eq_false (by omega)).symm | exact congrArg Value.bool (decide_eq_true (by omega)).symm | exact congrArg Value.bool (decide_eq_decide.2 (by omega)))
              · refine g_no rfl rfl rfl rfl ?_
                refine g_no rfl rfl rfl rfl ?_
                refine g_no rfl rfl rfl rfl ?_
                refine g_no rfl rfl rfl rfl ?_
                first | refine g_pure (p_pickt rfl rfl) rfl ?_ | refine g_pure (p_pickf rfl rfl) rfl ?_
                refine g_pure (p_move rfl) rfl ?_
                refine g_no rfl rfl rfl rfl ?_
                refine g_no rfl rfl rfl rfl ?_
                refine g_no rfl rfl rfl rfl ?_
                refine g_no rfl rfl rfl rfl ?_
                first | refine g_pure (p_pickt rfl rfl) rfl ?_ | refine g_pure (p_pickf rfl rfl) rfl ?_
                refine g_pure (p_assign rfl) rfl ?_
                refine g_nil <| g_qt <| g_ret <| g_qb_ret <| g_qt_ret ?_
                refine g_post (rs := [.tmp 6]) rfl (.tmp rfl .nil) ⟨?_, rfl⟩ (by repeat' (first | exact Cover.nil | exact Take.here | apply Cover.cons | apply Take.there))
                (first | rw [d1 (by omega)] | rw [d2 (by omega)] | rw [d3 (by omega)] | rw [d4 (by omega)] | rw [d6 (by omega)] | rw [d8 (by omega)] | rw [d9 (by omega)] | rw [d10 (by omega)] | rw [dE (by omega) (by omega)])
                (first | rfl | exact congrArg Value.bool (decide_eq_false (by omega)).symm | exact congrArg Value.bool (decide_eq_true (by omega)).symm | exact congrArg Value.bool (decide_eq_decide.2 (by omega)))
            · refine g_seq <| g_region ?_
              refine g_pure (p_eql rfl rfl) rfl ?_
              refine g_pure (p_assign rfl) rfl ?_
              refine g_nil <| g_qt ?_
              refine g_ifdL rfl (fun h18 => ?_) (fun h18 => ?_)
              · refine g_seq <| g_region ?_
                refine g_pure (p_fieldAddr rfl) rfl ?_
                refine g_pure (p_loadA) rfl ?_
                refine g_pure (p_move rfl) rfl ?_
                refine g_call (Hin := []) (Hr := ?hr16) (R := ?rr16) rfl rfl rfl ?hin16 ?hc16 ?hk16
                case hin16 => repeat' (first | exact Cover.nil | exact Take.here | apply Cover.cons | apply Take.there)
                case hc16 => intro ρ' hρ hR; exact rwi_ok i.2.1 1 x0.2.2.2.1 hg64
                rintro _ _ ⟨rfl, rfl⟩
                refine g_pure (p_assign rfl) rfl ?_
                refine g_nil <| g_qt <| g_ret <| g_qb_ret <| g_qt_ret ?_
                refine g_post (rs := [.tmp 6]) rfl (.tmp rfl .nil) ⟨?_, rfl⟩ (by repeat' (first | exact Cover.nil | exact Take.here | apply Cover.cons | apply Take.there))
                (first | rw [d1 (by omega)] | rw [d2 (by omega)] | rw [d3 (by omega)] | rw [d4 (by omega)] | rw [d6 (by omega)] | rw [d8 (by omega)] | rw [d9 (by omega)] | rw [d10 (by omega)] | rw [dE (by omega) (by omega)])
                (first | rfl | exact congrArg Value.bool (decide_eq_false (by omega)).symm | exact congrArg Value.bool (decide_eq_true (by omega)).symm | exact congrArg Value.bool (decide_eq_decide.2 (by omega)))
              · refine g_seq <| g_seq <| g_region ?_
                refine g_pure (p_eql rfl rfl) rfl ?_
                refine g_pure (p_assign rfl) rfl ?_
                refine g_nil <| g_qt ?_
                refine g_ifdL rfl (fun h19 => ?_) (fun h19 => ?_)
                · refine g_skip <| g_qt ?_
                  refine g_ift rfl ?_
                  refine g_seq <| g_seq <| g_region ?_
                  refine g_pure (p_fieldAddr rfl) rfl ?_
                  refine g_pure (p_loadA) rfl ?_
                  refine g_pure (p_lss rfl rfl) rfl ?_
                  refine g_pure (p_move rfl) rfl ?_
                  refine g_splitd rfl rfl (fun h21 => ?_) (fun h21 => ?_)
                  · refine g_no rfl rfl rfl rfl ?_
                    refine g_no rfl rfl rfl rfl ?_
                    refine g_no rfl rfl rfl rfl ?_
                    refine g_no rfl rfl rfl rfl ?_
                    first | refine g_pure (p_pickt rfl rfl) rfl ?_ | refine g_pure (p_pickf rfl rfl) rfl ?_
                    refine g_nil <| g_qt ?_
                    refine g_ift rfl ?_
                    refine g_seq <| g_region ?_
                    refine g_pure (p_assign rfl) rfl ?_
                    refine g_nil <| g_qt <| g_ret <| g_qt_ret <| g_qb_ret <| g_qt_ret ?_
                    refine g_post (rs := [.tmp 6]) rfl (.tmp rfl .nil) ⟨?_, rfl⟩ (by repeat' (first | exact Cover.nil | exact Take.here | apply Cover.cons | apply Take.there))
                    (first | rw [d1 (by omega)] | rw [d2 (by omega)] | rw [d3 (by omega)] | rw [d4 (by omega)] | rw [d6 (by omega)] | rw [d8 (by omega)] | rw [d9 (by omega)] | rw [d10 (by omega)] | rw [dE (by omega) (by omega)])
                    (first | rfl | exact congrArg Value.bool (decide_eq_false (by omega)).symm | exact congrArg Value.bool (decide_eq_true (by omega)).symm | exact congrArg Value.bool (decide_eq_decide.2 (by omega)))
                  · refine g_yes rfl rfl ?_
                    refine g_pure (p_fieldAddr rfl) rfl ?_
                    refine g_yes rfl rfl ?_
                    refine g_pure (p_loadA) rfl ?_
                    refine g_yes rfl rfl ?_
                    refine g_pure (p_move rfl) rfl ?_
                    refine g_yes rfl rfl ?_
                    refine g_pure (p_geq rfl rfl) rfl ?_
                    first | refine g_pure (p_pickt rfl rfl) rfl ?_ | refine g_pure (p_pickf rfl rfl) rfl ?_
                    refine g_nil <| g_qt ?_
                    refine g_ifdL rfl (fun h23 => ?_) (fun h23 => ?_)
                    · refine g_seq <| g_region ?_
                      refine g_pure (p_assign rfl) rfl ?_
                      refine g_nil <| g_qt <| g_ret <| g_qt_ret <| g_qb_ret <| g_qt_ret ?_
                      refine g_post (rs := [.tmp 6]) rfl (.tmp rfl .nil) ⟨?_, rfl⟩ (by repeat' (first | exact Cover.nil | exact Take.here | apply Cover.cons | apply Take.there))
                      (first | rw [d1 (by omega)] | rw [d2 (by omega)] | rw [d3 (by omega)] | rw [d4 (by omega)] | rw [d6 (by omega)] | rw [d8 (by omega)] | rw [d9 (by omega)] | rw [d10 (by omega)] | rw [dE (by omega) (by omega)])
                      (first | rfl | exact congrArg Value.bool (decide_eq_false (by omega)).symm | exact congrArg Value.bool (decide_eq_true (by omega)).symm | exact congrArg Value.bool (decide_eq_decide.2 (by omega)))
                    · refine g_skip <| g_qt <| g_seq <| g_region ?_
                      refine g_pure (p_fieldAddr rfl) rfl ?_
                      refine g_pure (p_loadA) rfl ?_
                      refine g_pure (p_fieldAddr rfl) rfl ?_
                      refine g_pure (p_loadA) rfl ?_
                      refine g_pure (p_indexAddr rfl rfl (by omega) (fun _ => r1)) rfl ?_
                      refine g_pure (p_loadN (by rfl) rfl (Has.ro r2) (hrow ⟨by omega, by omega⟩)) rfl ?_
                      refine g_eff (e_alloc (by rfl)) rfl (fun _ _ => ?_)
                      rintro ⟨b10, rfl, rfl⟩
                      first | refine g_eff0 (e_storeO rfl rfl (by rfl) (by rfl) (by rfl) (by repeat' (first | exact Take.here | apply Take.there)) (by rfl)) (fun _ _ => ?_) | refine g_eff0 (e_storeN rfl rfl (by rfl) (by rfl) (by rfl) (by repeat' (first | exact Take.here | apply Take.there)) (by simp)) (fun _ _ => ?_)
                      rintro rfl
                      refine g_nil <| g_qt <| g_seq <| g_seq <| g_region ?_
                      refine g_pure (p_fieldAddr rfl) rfl ?_
                      refine g_pure (p_loadA) rfl ?_
                      refine g_pure (p_fieldAddr rfl) rfl ?_
                      refine g_pure (p_loadA) rfl ?_
                      refine g_pure (p_len (by rfl) rfl) rfl ?_
                      refine g_pure (p_move rfl) rfl ?_
                      refine g_call (Hin := []) (Hr := ?hr17) (R := ?rr17) rfl rfl rfl ?hin17 ?hc17 ?hk17
                      case hin17 => repeat' (first | exact Cover.nil | exact Take.here | apply Cover.cons | apply Take.there)
                      case hc17 => intro ρ' hρ hR; exact rwi_ok i.2.2.1 (y.2.2.2.2.1.length : Int) (x0.2.2.2.2.1.length : Int) (by unfold I64; omega)
                      rintro _ _ ⟨rfl, rfl⟩
                      refine g_pure (p_not rfl) rfl ?_
                      refine g_nil <| g_qt ?_
                      refine g_ifndL rfl (fun h24 => ?_) (fun h24 => ?_)
                      · refine g_seq <| g_region ?_
                        refine g_pure (p_assign rfl) rfl ?_
                        refine g_nil <| g_qt <| g_ret <| g_qt_ret <| g_qb_ret <| g_qt_ret ?_
                        refine g_post (rs := [.tmp 6]) rfl (.tmp rfl .nil) ⟨?_, rfl⟩ (by repeat' (first | exact Cover.nil | exact Take.here | apply Cover.cons | apply Take.there))
                        (first | rw [d1 (by omega)] | rw [d2 (by omega)] | rw [d3 (by omega)] | rw [d4 (by omega)] | rw [d6 (by omega)] | rw [d8 (by omega)] | rw [d9 (by omega)] | rw [d10 (by omega)] | rw [dE (by omega) (by omega)])
                        (first | rfl | exact congrArg Value.bool (decide_eq_false (by omega)).symm | exact congrArg Value.bool (decide_eq_true (by omega)).symm | exact congrArg Value.bool (decide_eq_decide.2 (by omega)))
                      · refine g_skip <| g_qt <| g_seq <| g_region ?_
                        refine g_pure (p_fieldAddr rfl) rfl ?_
                        refine g_pure (p_loadA) rfl ?_
                        refine g_pure (p_eql rfl rfl) rfl ?_
                        refine g_pure (p_move rfl) rfl ?_
                        refine g_splitd rfl rfl (fun h25 => ?_) (fun h25 => ?_)
                        · refine g_no rfl rfl rfl rfl ?_
                          refine g_no rfl rfl rfl rfl ?_
                          refine g_no rfl rfl rfl rfl ?_
                          refine g_no rfl rfl rfl rfl ?_
                          refine g_no rfl rfl rfl rfl ?_
                          refine g_no rfl rfl rfl rfl ?_
                          refine g_no rfl rfl rfl rfl ?_
                          refine g_no rfl rfl rfl rfl ?_
                          refine g_nou rfl rfl rfl ?_
                          refine g_nou rfl rfl rfl ?_
                          refine g_nou rfl rfl rfl ?_
                          refine g_nou rfl rfl rfl ?_
                          refine g_nou rfl rfl rfl ?_
                          refine g_nou rfl rfl rfl ?_
                          refine g_nou rfl rfl rfl ?_
                          refine g_no rfl rfl rfl rfl ?_
                          first | refine g_pure (p_pickt rfl rfl) rfl ?_ | refine g_pure (p_pickf rfl rfl) rfl ?_
                          refine g_pure (p_assign rfl) rfl ?_
                          refine g_nil <| g_qt <| g_ret <| g_qb_ret <| g_qt_ret ?_
                          refine g_post (rs := [.tmp 6]) rfl (.tmp rfl .nil) ⟨?_, rfl⟩ (by repeat' (first | exact Cover.nil | exact Take.here | apply Cover.cons | apply Take.there))
                          (first | rw [d1 (by omega)] | rw [d2 (by omega)] | rw [d3 (by omega)] | rw [d4 (by omega)] | rw [d6 (by omega)] | rw [d8 (by omega)] | rw [d9 (by omega)] | rw [d10 (by omega)] | rw [dE (by omega) (by omega)])
                          (first | rfl | exact congrArg Value.bool (decide_eq_false (by omega)).symm | exact congrArg Value.bool (decide_eq_true (by omega)).symm | exact congrArg Value.bool (decide_eq_decide.2 (by omega)))
                        · refine g_yes rfl rfl ?_
                          refine g_pure (p_fieldAddr rfl) rfl ?_
                          refine g_yes rfl rfl ?_
                          refine g_pure (p_loadA) rfl ?_
                          refine g_yes rfl rfl ?_
                          refine g_pure (p_fieldAddr rfl) rfl ?_
                          refine g_yes rfl rfl ?_
                          refine g_pure (p_loadA) rfl ?_
                          refine g_yes rfl rfl ?_
                          refine g_pure (p_len (by rfl) rfl) rfl ?_
                          refine g_yes rfl rfl ?_
                          refine g_pure (p_move rfl) rfl ?_
                          refine g_yes rfl rfl ?_
                          refine g_call (Hin := []) (Hr := ?hr18) (R := ?rr18) rfl rfl rfl ?hin18 ?hc18 ?hk18
                          case hin18 => repeat' (first | exact Cover.nil | exact Take.here | apply Cover.cons | apply Take.there)
                          case hc18 => intro ρ' hρ hR; exact rwi_ok i.2.2.2.1 (y.2.1.length : Int) x0.2.2.2.1 hg64
                          rintro _ _ ⟨rfl, rfl⟩
                          refine g_yes rfl rfl ?_
                          refine g_pure (p_move rfl) rfl ?_
                          refine g_splitd rfl rfl (fun h27 => ?_) (fun h27 => ?_)
                          · refine g_yes rfl rfl ?_
                            refine g_pure (p_fieldAddr rfl) rfl ?_
                            refine g_yes rfl rfl ?_
                            refine g_pure (p_loadA) rfl ?_
                            refine g_yes rfl rfl ?_
                            refine g_pure (p_fieldAddr rfl) rfl ?_
                            refine g_yes rfl rfl ?_
                            refine g_pure (p_loadA) rfl ?_
                            refine g_yes rfl rfl ?_
                            refine g_pure (p_len (by rfl) rfl) rfl ?_
                            refine g_yes rfl rfl ?_
                            refine g_pure (p_move rfl) rfl ?_
                            refine g_yes rfl rfl ?_
                            refine g_call (Hin := []) (Hr := ?hr19) (R := ?rr19) rfl rfl rfl ?hin19 ?hc19 ?hk19
                            case hin19 => repeat' (first | exact Cover.nil | exact Take.here | apply Cover.cons | apply Take.there)
                            case hc19 => intro ρ' hρ hR; exact rwi_ok i.2.2.2.2 (y.2.2.1.length : Int) x0.2.2.2.1 hg64
                            rintro _ _ ⟨rfl, rfl⟩
                            refine g_yes rfl rfl ?_
                            first | refine g_pure (p_pickt rfl rfl) rfl ?_ | refine g_pure (p_pickf rfl rfl) rfl ?_
                            first | refine g_pure (p_pickt rfl rfl) rfl ?_ | refine g_pure (p_pickf rfl rfl) rfl ?_
                            refine g_pure (p_assign rfl) rfl ?_
                            refine g_nil <| g_qt <| g_ret <| g_qb_ret <| g_qt_ret ?_
                            refine g_post (rs := [.tmp 6]) rfl (.tmp rfl .nil) ⟨?_, rfl⟩ (by repeat' (first | exact Cover.nil | exact Take.here | apply Cover.cons | apply Take.there))
                            (first | rw [d1 (by omega)] | rw [d2 (by omega)] | rw [d3 (by omega)] | rw [d4 (by omega)] | rw [d6 (by omega)] | rw [d8 (by omega)] | rw [d9 (by omega)] | rw [d10 (by omega)] | rw [dE (by omega) (by omega)])
                            (first | rfl | exact congrArg Value.bool (decide_eq_false (by omega)).symm | exact congrArg Value.bool (decide_eq_true (by omega)).symm | exact congrArg Value.bool (decide_eq_decide.2 (by omega)))
                          · refine g_no rfl rfl rfl rfl ?_
                            refine g_no rfl rfl rfl rfl ?_
                            refine g_no rfl rfl rfl rfl ?_
                            refine g_no rfl rfl rfl rfl ?_
                            refine g_no rfl rfl rfl rfl ?_
                            refine g_no rfl rfl rfl rfl ?_
                            refine g_no rfl rfl rfl rfl ?_
                            refine g_yes rfl rfl ?_
                            first | refine g_pure (p_pickt rfl rfl) rfl ?_ | refine g_pure (p_pickf rfl rfl) rfl ?_
                            first | refine g_pure (p_pickt rfl rfl) rfl ?_ | refine g_pure (p_pickf rfl rfl) rfl ?_
                            refine g_pure (p_assign rfl) rfl ?_
                            refine g_nil <| g_qt <| g_ret <| g_qb_ret <| g_qt_ret ?_
                            refine g_post (rs := [.tmp 6]) rfl (.tmp rfl .nil) ⟨?_, rfl⟩ (by repeat' (first | exact Cover.nil | exact Take.here | apply Cover.cons | apply Take.there))
                            (first | rw [d1 (by omega)] | rw [d2 (by omega)] | rw [d3 (by omega)] | rw [d4 (by omega)] | rw [d6 (by omega)] | rw [d8 (by omega)] | rw [d9 (by omega)] | rw [d10 (by omega)] | rw [dE (by omega) (by omega)])
                            (first | rfl | exact congrArg Value.bool (decide_eq_false (by omega)).symm | exact congrArg Value.bool (decide_eq_true (by omega)).symm | exact congrArg Value.bool (decide_eq_decide.2 (by omega)))
                · refine g_region ?_
                  refine g_pure (p_eql rfl rfl) rfl ?_
                  refine g_pure (p_assign rfl) rfl ?_
                  refine g_nil <| g_qt ?_
                  refine g_ifdL rfl (fun h28 => ?_) (fun h28 => ?_)
                  · refine g_seq <| g_seq <| g_region ?_
                    refine g_pure (p_fieldAddr rfl) rfl ?_
                    refine g_pure (p_loadA) rfl ?_
                    refine g_pure (p_lss rfl rfl) rfl ?_
                    refine g_pure (p_move rfl) rfl ?_
                    refine g_splitd rfl rfl (fun h29 => ?_) (fun h29 => ?_)
                    · refine g_no rfl rfl rfl rfl ?_
                      refine g_no rfl rfl rfl rfl ?_
                      refine g_no rfl rfl rfl rfl ?_
                      refine g_no rfl rfl rfl rfl ?_
                      first | refine g_pure (p_pickt rfl rfl) rfl ?_ | refine g_pure (p_pickf rfl rfl) rfl ?_
                      refine g_nil <| g_qt ?_
                      refine g_ift rfl ?_
                      refine g_seq <| g_region ?_
                      refine g_pure (p_assign rfl) rfl ?_
                      refine g_nil <| g_qt <| g_ret <| g_qt_ret <| g_qb_ret <| g_qt_ret ?_
                      refine g_post (rs := [.tmp 6]) rfl (.tmp rfl .nil) ⟨?_, rfl⟩ (by repeat' (first | exact Cover.nil | exact Take.here | apply Cover.cons | apply Take.there))
                      (first | rw [d1 (by omega)] | rw [d2 (by omega)] | rw [d3 (by omega)] | rw [d4 (by omega)] | rw [d6 (by omega)] | rw [d8 (by omega)] | rw [d9 (by omega)] | rw [d10 (by omega)] | rw [dE (by omega) (by omega)])
                      (first | rfl | exact congrArg Value.bool (decide_eq_false (by omega)).symm | exact congrArg Value.bool (decide_eq_true (by omega)).symm | exact congrArg Value.bool (decide_eq_decide.2 (by omega)))
                    · refine g_yes rfl rfl ?_
                      refine g_pure (p_fieldAddr rfl) rfl ?_
                      refine g_yes rfl rfl ?_
                      refine g_pure (p_loadA) rfl ?_
                      refine g_yes rfl rfl ?_
                      refine g_pure (p_move rfl) rfl ?_
                      refine g_yes rfl rfl ?_
                      refine g_pure (p_geq rfl rfl) rfl ?_
                      first | refine g_pure (p_pickt rfl rfl) rfl ?_ | refine g_pure (p_pickf rfl rfl) rfl ?_
                      refine g_nil <| g_qt ?_
                      refine g_ifdL rfl (fun h31 => ?_) (fun h31 => ?_)
                      · refine g_seq <| g_region ?_
                        refine g_pure (p_assign rfl) rfl ?_
                        refine g_nil <| g_qt <| g_ret <| g_qt_ret <| g_qb_ret <| g_qt_ret ?_
                        refine g_post (rs := [.tmp 6]) rfl (.tmp rfl .nil) ⟨?_, rfl⟩ (by repeat' (first | exact Cover.nil | exact Take.here | apply Cover.cons | apply Take.there))
                        (first | rw [d1 (by omega)] | rw [d2 (by omega)] | rw [d3 (by omega)] | rw [d4 (by omega)] | rw [d6 (by omega)] | rw [d8 (by omega)] | rw [d9 (by omega)] | rw [d10 (by omega)] | rw [dE (by omega) (by omega)])
                        (first | rfl | exact congrArg Value.bool (decide_eq_false (by omega)).symm | exact congrArg Value.bool (decide_eq_true (by omega)).symm | exact congrArg Value.bool (decide_eq_decide.2 (by omega)))
                      · refine g_skip <| g_qt <| g_seq <| g_region ?_
                        refine g_pure (p_fieldAddr rfl) rfl ?_
                        refine g_pure (p_loadA) rfl ?_
                        refine g_pure (p_fieldAddr rfl) rfl ?_
                        refine g_pure (p_loadA) rfl ?_
                        refine g_pure (p_indexAddr rfl rfl (by omega) (fun _ => r1)) rfl ?_
                        refine g_pure (p_loadN (by rfl) rfl (Has.ro r2) (hrow ⟨by omega, by omega⟩)) rfl ?_
                        refine g_eff (e_alloc (by rfl)) rfl (fun _ _ => ?_)
                        rintro ⟨b10, rfl, rfl⟩
                        first | refine g_eff0 (e_storeO rfl rfl (by rfl) (by rfl) (by rfl) (by repeat' (first | exact Take.here | apply Take.there)) (by rfl)) (fun _ _ => ?_) | refine g_eff0 (e_storeN rfl rfl (by rfl) (by rfl) (by rfl) (by repeat' (first | exact Take.here | apply Take.there)) (by simp)) (fun _ _ => ?_)
                        rintro rfl
                        refine g_nil <| g_qt <| g_seq <| g_seq <| g_region ?_
                        refine g_pure (p_fieldAddr rfl) rfl ?_
                        refine g_pure (p_loadA) rfl ?_
                        refine g_pure (p_fieldAddr rfl) rfl ?_
                        refine g_pure (p_loadA) rfl ?_
                        refine g_pure (p_len (by rfl) rfl) rfl ?_
                        refine g_pure (p_move rfl) rfl ?_
                        refine g_call (Hin := []) (Hr := ?hr20) (R := ?rr20) rfl rfl rfl ?hin20 ?hc20 ?hk20
                        case hin20 => repeat' (first | exact Cover.nil | exact Take.here | apply Cover.cons | apply Take.there)
                        case hc20 => intro ρ' hρ hR; exact rwi_ok i.2.2.1 (y.2.2.2.2.1.length : Int) (x0.2.2.2.2.1.length : Int) (by unfold I64; omega)
                        rintro _ _ ⟨rfl, rfl⟩
                        refine g_pure (p_not rfl) rfl ?_
                        refine g_nil <| g_qt ?_
                        refine g_ifndL rfl (fun h32 => ?_) (fun h32 => ?_)
                        · refine g_seq <| g_region ?_
                          refine g_pure (p_assign rfl) rfl ?_
                          refine g_nil <| g_qt <| g_ret <| g_qt_ret <| g_qb_ret <| g_qt_ret ?_
                          refine g_post (rs := [.tmp 6]) rfl (.tmp rfl .nil) ⟨?_, rfl⟩ (by repeat' (first | exact Cover.nil | exact Take.here | apply Cover.cons | apply Take.there))
                          (first | rw [d1 (by omega)] | rw [d2 (by omega)] | rw [d3 (by omega)] | rw [d4 (by omega)] | rw [d6 (by omega)] | rw [d8 (by omega)] | rw [d9 (by omega)] | rw [d10 (by omega)] | rw [dE (by omega) (by omega)])
                          (first | rfl | exact congrArg Value.bool (decide_eq_false (by omega)).symm | exact congrArg Value.bool (decide_eq_true (by omega)).symm | exact congrArg Value.bool (decide_eq_decide.2 (by omega)))
                        · refine g_skip <| g_qt <| g_seq <| g_region ?_
                          refine g_pure (p_fieldAddr rfl) rfl ?_
                          refine g_pure (p_loadA) rfl ?_
                          refine g_pure (p_eql rfl rfl) rfl ?_
                          refine g_pure (p_move rfl) rfl ?_
                          refine g_splitd rfl rfl (fun h33 => ?_) (fun h33 => ?_)
                          · refine g_no rfl rfl rfl rfl ?_
                            refine g_no rfl rfl rfl rfl ?_
                            refine g_no rfl rfl rfl rfl ?_
                            refine g_no rfl rfl rfl rfl ?_
                            refine g_no rfl rfl rfl rfl ?_
                            refine g_no rfl rfl rfl rfl ?_
                            refine g_no rfl rfl rfl rfl ?_
                            refine g_no rfl rfl rfl rfl ?_
                            refine g_nou rfl rfl rfl ?_
                            refine g_nou rfl rfl rfl ?_
                            refine g_nou rfl rfl rfl ?_
                            refine g_nou rfl rfl rfl ?_
                            refine g_nou rfl rfl rfl ?_
                            refine g_nou rfl rfl rfl ?_
                            refine g_nou rfl rfl rfl ?_
                            refine g_no rfl rfl rfl rfl ?_
                            first | refine g_pure (p_pickt rfl rfl) rfl ?_ | refine g_pure (p_pickf rfl rfl) rfl ?_
                            refine g_pure (p_assign rfl) rfl ?_
                            refine g_nil <| g_qt <| g_ret <| g_qb_ret <| g_qt_ret ?_
                            refine g_post (rs := [.tmp 6]) rfl (.tmp rfl .nil) ⟨?_, rfl⟩ (by repeat' (first | exact Cover.nil | exact Take.here | apply Cover.cons | apply Take.there))
                            (first | rw [d1 (by omega)] | rw [d2 (by omega)] | rw [d3 (by omega)] | rw [d4 (by omega)] | rw [d6 (by omega)] | rw [d8 (by omega)] | rw [d9 (by omega)] | rw [d10 (by omega)] | rw [dE (by omega) (by omega)])
                            (first | rfl | exact congrArg Value.bool (decide_eq_false (by omega)).symm | exact congrArg Value.bool (decide_eq_true (by omega)).symm | exact congrArg Value.bool (decide_eq_decide.2 (by omega)))
                          · refine g_yes rfl rfl ?_
                            refine g_pure (p_fieldAddr rfl) rfl ?_
                            refine g_yes rfl rfl ?_
                            refine g_pure (p_loadA) rfl ?_
                            refine g_yes rfl rfl ?_
                            refine g_pure (p_fieldAddr rfl) rfl ?_
                            refine g_yes rfl rfl ?_
                            refine g_pure (p_loadA) rfl ?_
                            refine g_yes rfl rfl ?_
                            refine g_pure (p_len (by rfl) rfl) rfl ?_
                            refine g_yes rfl rfl ?_
                            refine g_pure (p_move rfl) rfl ?_
                            refine g_yes rfl rfl ?_
                            refine g_call (Hin := []) (Hr := ?hr21) (R := ?rr21) rfl rfl rfl ?hin21 ?hc21 ?hk21
                            case hin21 => repeat' (first | exact Cover.nil | exact Take.here | apply Cover.cons | apply Take.there)
                            case hc21 => intro ρ' hρ hR; exact rwi_ok i.2.2.2.1 (y.2.1.length : Int) x0.2.2.2.1 hg64
                            rintro _ _ ⟨rfl, rfl⟩
                            refine g_yes rfl rfl ?_
                            refine g_pure (p_move rfl) rfl ?_
                            refine g_splitd rfl rfl (fun h35 => ?_) (fun h35 => ?_)
                            · refine g_yes rfl rfl ?_
                              refine g_pure (p_fieldAddr rfl) rfl ?_
                              refine g_yes rfl rfl ?_
                              refine g_pure (p_loadA) rfl ?_
                              refine g_yes rfl rfl ?_
                              refine g_pure (p_fieldAddr rfl) rfl ?_
                              refine g_yes rfl rfl ?_
                              refine g_pure (p_loadA) rfl ?_
                              refine g_yes rfl rfl ?_
                              refine g_pure (p_len (by rfl) rfl) rfl ?_
                              refine g_yes rfl rfl ?_
                              refine g_pure (p_move rfl) rfl ?_
                              refine g_yes rfl rfl ?_
                              refine g_call (Hin := []) (Hr := ?hr22) (R := ?rr22) rfl rfl rfl ?hin22 ?hc22 ?hk22
                              case hin22 => repeat' (first | exact Cover.nil | exact Take.here | apply Cover.cons | apply Take.there)
                              case hc22 => intro ρ' hρ hR; exact rwi_ok i.2.2.2.2 (y.2.2.1.length : Int) x0.2.2.2.1 hg64
                              rintro _ _ ⟨rfl, rfl⟩
                              refine g_yes rfl rfl ?_
                              first | refine g_pure (p_pickt rfl rfl) rfl ?_ | refine g_pure (p_pickf rfl rfl) rfl ?_
                              first | refine g_pure (p_pickt rfl rfl) rfl ?_ | refine g_pure (p_pickf rfl rfl) rfl ?_
                              refine g_pure (p_assign rfl) rfl ?_
                              refine g_nil <| g_qt <| g_ret <| g_qb_ret <| g_qt_ret ?_
                              refine g_post (rs := [.tmp 6]) rfl (.tmp rfl .nil) ⟨?_, rfl⟩ (by repeat' (first | exact Cover.nil | exact Take.here | apply Cover.cons | apply Take.there))
                              (first | rw [d1 (by omega)] | rw [d2 (by omega)] | rw [d3 (by omega)] | rw [d4 (by omega)] | rw [d6 (by omega)] | rw [d8 (by omega)] | rw [d9 (by omega)] | rw [d10 (by omega)] | rw [dE (by omega) (by omega)])
                              (first | rfl | exact congrArg Value.bool (decide_eq_false (by omega)).symm | exact congrArg Value.bool (decide_eq_true (by omega)).symm | exact congrArg Value.bool (decide_eq_decide.2 (by omega)))
                            · refine g_no rfl rfl rfl rfl ?_
                              refine g_no rfl rfl rfl rfl ?_
                              refine g_no rfl rfl rfl rfl ?_
                              refine g_no rfl rfl rfl rfl ?_
                              refine g_no rfl rfl rfl rfl ?_
                              refine g_no rfl rfl rfl rfl ?_
                              refine g_no rfl rfl rfl rfl ?_
                              refine g_yes rfl rfl ?_
                              first | refine g_pure (p_pickt rfl rfl) rfl ?_ | refine g_pure (p_pickf rfl rfl) rfl ?_
                              first | refine g_pure (p_pickt rfl rfl) rfl ?_ | refine g_pure (p_pickf rfl rfl) rfl ?_
                              refine g_pure (p_assign rfl) rfl ?_
                              refine g_nil <| g_qt <| g_ret <| g_qb_ret <| g_qt_ret ?_
                              refine g_post (rs := [.tmp 6]) rfl (.tmp rfl .nil) ⟨?_, rfl⟩ (by repeat' (first | exact Cover.nil | exact Take.here | apply Cover.cons | apply Take.there))
                              (first | rw [d1 (by omega)] | rw [d2 (by omega)] | rw [d3 (by omega)] | rw [d4 (by omega)] | rw [d6 (by omega)] | rw [d8 (by omega)] | rw [d9 (by omega)] | rw [d10 (by omega)] | rw [dE (by omega) (by omega)])
                              (first | rfl | exact congrArg Value.bool (decide_eq_false (by omega)).symm | exact congrArg Value.bool (decide_eq_true (by omega)).symm | exact congrArg Value.bool (decide_eq_decide.2 (by omega)))
                  · refine g_skip <| g_qb <| g_qt <| g_seq <| g_region ?_
                    refine g_pure (p_assign rfl) rfl ?_
                    refine g_nil <| g_qt <| g_ret ?_
                    refine g_post (rs := [.tmp 6]) rfl (.tmp rfl .nil) ⟨?_, rfl⟩ (by repeat' (first | exact Cover.nil | exact Take.here | apply Cover.cons | apply Take.there))
                    (first | rw [d1 (by omega)] | rw [d2 (by omega)] | rw [d3 (by omega)] | rw [d4 (by omega)] | rw [d6 (by omega)] | rw [d8 (by omega)] | rw [d9 (by omega)] | rw [d10 (by omega)] | rw [dE (by omega) (by omega)])
                    (first | rfl | exact congrArg Value.bool (decide_eq_false (by omega)).symm | exact congrArg Value.bool (decide_eq_true (by omega)).symm | exact congrArg Value.bool (decide_eq_decide.2 (by omega)))
end Go.Proofs.YtcnfcoojmbjdlaaGreatDoor
/- Chapter 26: the document's check of a routine and of an image. Conditions: none. -/
namespace Go.Z.Asm
set_option maxRecDepth 8000
set_option linter.unusedVariables false
set_option linter.unusedSimpArgs false
set_option linter.unusedSectionVars false
open Go Go.Z Go.Lib
theorem any_step {α : Type} {s : List α} {k : Nat} {f : α → Bool} (hk : k < s.length) (h : (s.take k).any f = false) : (f s[k] = false → (s.take (k + 1)).any f = false) ∧ (f s[k] = true → s.any f = true) := by
  constructor
  · intro e
    rw [List.take_add_one, List.getElem?_eq_getElem hk, Option.toList_some, List.any_append, h]; simpa using e
  · intro e
    rw [List.any_eq_true]
    exact ⟨s[k], List.getElem_mem hk, e⟩
theorem oneR_ref (im : Im) (kr : Nat) (x : Rt) {R : Int} (hR : oneR im kr x = R) {a b : Bool} (ha : x.2.1.all (typedB im.1.length) = a) (hb : x.2.2.1.all (typedB im.1.length) = b) :
    ((!titleP x.1) = true → R = 6) ∧
    ((!titleP x.1) = false → (64 < x.2.1.length ∨ 64 < x.2.2.1.length ∨ 16384 < x.2.2.2.2.1.length ∨ 32768 < x.2.2.2.2.2.length ∨ 32768 < x.2.2.2.1) → R = 3) ∧
    ((!titleP x.1) = false → ¬ (64 < x.2.1.length ∨ 64 < x.2.2.1.length ∨ 16384 < x.2.2.2.2.1.length ∨ 32768 < x.2.2.2.2.2.length ∨ 32768 < x.2.2.2.1) →
      ((!a) = true → R = 10) ∧ ((!b) = true → R = 10) ∧ ((!a) = false → (!b) = false →
        (x.2.2.2.1 < (x.2.1.length : Int) + x.2.2.1.length → R = 9) ∧ (¬ x.2.2.2.1 < (x.2.1.length : Int) + x.2.2.1.length → R = if x.2.2.2.2.1.any outB = true then 14 else codeE im.2 kr x.2.2.2.2.2.length 0 x.2.2.2.2.2))) := by
  subst hR ha hb
  have ht := typed_ref im.1 x.2.1 x.2.2.1
  unfold oneR
  rw [ht]
  refine ⟨fun h => ?_, fun h h2 => ?_, fun h h2 => ⟨fun h3 => ?_, fun h3 => ?_, fun h3 h4 => ⟨fun h5 => ?_, fun h5 => ?_⟩⟩⟩
  · rw [if_pos (by simpa using h)]
  · rw [if_neg (by simpa using h), if_pos (by omega)]
  · rw [if_neg (by simpa using h), if_neg (by omega), if_pos (by simp at h3 ⊢; exact .inl h3)]
  · rw [if_neg (by simpa using h), if_neg (by omega), if_pos (by simp at h3 ⊢; exact .inr h3)]
  · rw [if_neg (by simpa using h), if_neg (by omega), if_neg (by simp at h3 h4 ⊢; exact ⟨h3, h4⟩), if_pos h5]
  · rw [if_neg (by simpa using h), if_neg (by omega), if_neg (by simp at h3 h4 ⊢; exact ⟨h3, h4⟩), if_neg h5]
end Go.Z.Asm
namespace Go.Proofs.YtcnfcoojmbjdlaaGreatDoor
set_option maxRecDepth 8000
set_option linter.unusedVariables false
set_option linter.unusedSimpArgs false
set_option linter.unusedSectionVars false
open Go Go.Z Go.Z.Asm

theorem rroutine_ok {ρ : Nat → Obj → Prop} {ea ra : Option Addr} {ec rc : Nat} {im : Im} (h : ImI ρ ea ra im) (kr : Nat) (hkr : kr < im.2.length) :
    Con Tryz.prog ρ 35 #[.agg #[.slice ea im.1.length ec, .slice ra im.2.length rc], .int .i64 kr] [] (fun v H => v = .int .i64 (oneP im kr) ∧ H = []) := by
  have hrl := h.rl
  have hel := h.el
  obtain ⟨b, off, cs, T, fz, r1, r2, r3⟩ := h.rs (by omega)
  obtain ⟨row, q1, q2, q3⟩ := r3 kr hkr
  have hok := h.ok im.2[kr] (List.getElem_mem hkr)
  rw [oneR_eq im kr hkr]
  generalize im.2[kr] = x0 at q1 hok
  obtain ⟨ia, ic, oa, oc, na, nc, ca, cc, e0, hi, ho, hn, hc⟩ := q1
  subst e0
  have hil := hok.il
  have hol := hok.ol
  have hzl := hok.zl
  have hcl := hok.cl
  obtain ⟨hr1, hr2⟩ := hok.ri
  obtain ⟨bc, oc2, cs2, T2, fz2, hcr⟩ := RSl.row encIns_len hc
  obtain ⟨_, bn, on, cn, Tn, fn, hnr⟩ := id hn
  obtain ⟨R, hR⟩ : ∃ R, oneR im kr x0 = R := ⟨_, rfl⟩
  obtain ⟨yt, hyt⟩ : ∃ b, titleP x0.1 = b := ⟨_, rfl⟩
  obtain ⟨ya, hya⟩ : ∃ b, x0.2.1.all (typedB im.1.length) = b := ⟨_, rfl⟩
  obtain ⟨yb, hyb⟩ : ∃ b, x0.2.2.1.all (typedB im.1.length) = b := ⟨_, rfl⟩
  obtain ⟨o1, o2, o3⟩ := oneR_ref im kr x0 hR hya hyb
  rw [hyt] at o1 o2 o3
  rw [hR]
  have cN : ∀ ρ' : Nat → Obj → Prop, Con Tryz.prog ρ' 64 #[.string (strB x0.1)] [] (fun v H => v = .bool yt ∧ H = []) := fun ρ' => by have := rname_ok (ρ := ρ') x0.1 hok.nl; rw [hyt] at this; exact this
  have cA : ∀ {ρ' : Nat → Obj → Prop}, (∀ b o, ρ b o → ρ' b o) → Con Tryz.prog ρ' 65 #[.slice ea im.1.length ec, .slice ia x0.2.1.length ic] [] (fun v H => v = .bool ya ∧ H = []) := fun hρ => by have := rtyped_ok ea ia ec ic im.1.length hel x0.2.1 (hi.mono hρ) hil; rw [hya] at this; exact this
  have cB : ∀ {ρ' : Nat → Obj → Prop}, (∀ b o, ρ b o → ρ' b o) → Con Tryz.prog ρ' 65 #[.slice ea im.1.length ec, .slice oa x0.2.2.1.length oc] [] (fun v H => v = .bool yb ∧ H = []) := fun hρ => by have := rtyped_ok ea oa ec oc im.1.length hel x0.2.2.1 (ho.mono hρ) hol; rw [hyb] at this; exact this
  refine con_intro Tryz.func35 Tryz.call35 rfl Tryz.ntmps35 rfl (L := [(0, _), (1, _)]) rfl fun w hh => ?_
  refine g_seq <| g_region ?_
  refine g_eff (e_box rfl (by rfl)) rfl (fun _ _ => ?_)
  rintro ⟨b2, rfl, rfl⟩
  refine g_pure (p_assign rfl) rfl ?_
  refine g_nil <| g_qt <| g_seq <| g_region ?_
  refine g_pure (p_fieldAddr rfl) rfl ?_
  refine g_pure (p_loadA) rfl ?_
  refine g_pure (p_move rfl) rfl ?_
  refine g_pure (p_indexAddr rfl rfl (by omega) (fun _ => r1)) rfl ?_
  refine g_pure (p_loadN (by rfl) rfl (Has.ro r2) (by rw [Int.toNat_natCast]; exact q2)) rfl ?_
  refine g_eff (e_alloc (by rfl)) rfl (fun _ _ => ?_)
  rintro ⟨b5, rfl, rfl⟩
  first | refine g_eff0 (e_storeO rfl rfl (by rfl) (by rfl) (by rfl) (by repeat' (first | exact Take.here | apply Take.there)) (by rfl)) (fun _ _ => ?_) | refine g_eff0 (e_storeN rfl rfl (by rfl) (by rfl) (by rfl) (by repeat' (first | exact Take.here | apply Take.there)) (by simp)) (fun _ _ => ?_)
  rintro rfl
  refine g_nil <| g_qt <| g_seq <| g_seq <| g_region ?_
  refine g_pure (p_fieldAddr rfl) rfl ?_
  refine g_pure (p_loadA) rfl ?_
  refine g_call (Hin := []) (Hr := ?hr1) (R := ?rr1) rfl rfl rfl ?hin1 ?hc1 ?hk1
  case hin1 => repeat' (first | exact Cover.nil | exact Take.here | apply Cover.cons | apply Take.there)
  case hc1 => intro ρ' hρ hR; exact cN ρ'
  rintro _ _ ⟨rfl, rfl⟩
  refine g_pure (p_not rfl) rfl ?_
  refine g_nil <| g_qt ?_
  refine g_join (fun _ : Unit => [(1, .int .i64 kr), (2, .pointer (some ⟨b2, 0, none⟩)), (5, .pointer (some ⟨b5, 0, none⟩))]) (fun _ => [Blk b2 (.cells [.slice ea im.1.length ec, .slice ra im.2.length rc].toArray 25 (0, 0)), Blk b5 (.cells [.string (strB x0.1), .slice ia x0.2.1.length ic, .slice oa x0.2.2.1.length oc, .int .i64 x0.2.2.2.1, .slice na x0.2.2.2.2.1.length nc, .slice ca x0.2.2.2.2.2.length cc].toArray 45 (0, 0))]) (fun _ => (!yt) = false) ?_ ?_
  · refine g_ifL rfl (fun h1 => ?_) (fun h1 => ?_)
    · refine g_seq <| g_region ?_
      refine g_pure (p_assign rfl) rfl ?_
      refine g_nil <| g_qt <| g_ret <| g_qn_ret <| g_qt_ret ?_
      exact g_postA (rs := [.tmp 4]) rfl (.tmp rfl .nil) ⟨show Value.int .i64 6 = _ by (rw [o1 (by assumption)]), rfl⟩
    · refine g_skip <| g_qn ?_
      exact g_joinedA () (by assumption)
  rintro _ n1
  refine g_qt <| g_seq ?_
  refine g_join (fun _ : Unit => [(1, .int .i64 kr), (2, .pointer (some ⟨b2, 0, none⟩)), (5, .pointer (some ⟨b5, 0, none⟩))]) (fun _ => [Blk b2 (.cells [.slice ea im.1.length ec, .slice ra im.2.length rc].toArray 25 (0, 0)), Blk b5 (.cells [.string (strB x0.1), .slice ia x0.2.1.length ic, .slice oa x0.2.2.1.length oc, .int .i64 x0.2.2.2.1, .slice na x0.2.2.2.2.1.length nc, .slice ca x0.2.2.2.2.2.length cc].toArray 45 (0, 0))]) (fun _ => ¬ (64 < x0.2.1.length ∨ 64 < x0.2.2.1.length ∨ 16384 < x0.2.2.2.2.1.length ∨ 32768 < x0.2.2.2.2.2.length ∨ 32768 < x0.2.2.2.1)) ?_ ?_
  · refine g_seq <| g_region ?_
    refine g_pure (p_fieldAddr rfl) rfl ?_
    refine g_pure (p_loadA) rfl ?_
    refine g_pure (p_len (by rfl) rfl) rfl ?_
    refine g_pure (p_gtr rfl rfl) rfl ?_
    refine g_pure (p_move rfl) rfl ?_
    refine g_splitd rfl rfl (fun h1 => ?_) (fun h1 => ?_)
    · refine g_no rfl rfl rfl rfl ?_
      refine g_no rfl rfl rfl rfl ?_
      refine g_no rfl rfl rfl rfl ?_
      refine g_no rfl rfl rfl rfl ?_
      first | refine g_pure (p_pickt rfl rfl) rfl ?_ | refine g_pure (p_pickf rfl rfl) rfl ?_
      refine g_pure (p_move rfl) rfl ?_
      refine g_no rfl rfl rfl rfl ?_
      refine g_no rfl rfl rfl rfl ?_
      refine g_no rfl rfl rfl rfl ?_
      refine g_no rfl rfl rfl rfl ?_
      first | refine g_pure (p_pickt rfl rfl) rfl ?_ | refine g_pure (p_pickf rfl rfl) rfl ?_
      refine g_pure (p_move rfl) rfl ?_
      refine g_no rfl rfl rfl rfl ?_
      refine g_no rfl rfl rfl rfl ?_
      refine g_no rfl rfl rfl rfl ?_
      refine g_no rfl rfl rfl rfl ?_
      first | refine g_pure (p_pickt rfl rfl) rfl ?_ | refine g_pure (p_pickf rfl rfl) rfl ?_
      refine g_pure (p_move rfl) rfl ?_
      refine g_no rfl rfl rfl rfl ?_
      refine g_no rfl rfl rfl rfl ?_
      refine g_no rfl rfl rfl rfl ?_
      first | refine g_pure (p_pickt rfl rfl) rfl ?_ | refine g_pure (p_pickf rfl rfl) rfl ?_
      refine g_nil <| g_qt ?_
      refine g_ift rfl ?_
      refine g_seq <| g_region ?_
      refine g_pure (p_assign rfl) rfl ?_
      refine g_nil <| g_qt <| g_ret <| g_qn_ret <| g_qt_ret ?_
      exact g_postA (rs := [.tmp 4]) rfl (.tmp rfl .nil) ⟨show Value.int .i64 3 = _ by (rw [o2 n1 (by omega)]), rfl⟩
    · refine g_yes rfl rfl ?_
      refine g_pure (p_fieldAddr rfl) rfl ?_
      refine g_yes rfl rfl ?_
      refine g_pure (p_loadA) rfl ?_
      refine g_yes rfl rfl ?_
      refine g_pure (p_len (by rfl) rfl) rfl ?_
      refine g_yes rfl rfl ?_
      refine g_pure (p_gtr rfl rfl) rfl ?_
      first | refine g_pure (p_pickt rfl rfl) rfl ?_ | refine g_pure (p_pickf rfl rfl) rfl ?_
      refine g_pure (p_move rfl) rfl ?_
      refine g_splitd rfl rfl (fun h6 => ?_) (fun h6 => ?_)
      · refine g_no rfl rfl rfl rfl ?_
        refine g_no rfl rfl rfl rfl ?_
        refine g_no rfl rfl rfl rfl ?_
        refine g_no rfl rfl rfl rfl ?_
        first | refine g_pure (p_pickt rfl rfl) rfl ?_ | refine g_pure (p_pickf rfl rfl) rfl ?_
        refine g_pure (p_move rfl) rfl ?_
        refine g_no rfl rfl rfl rfl ?_
        refine g_no rfl rfl rfl rfl ?_
        refine g_no rfl rfl rfl rfl ?_
        refine g_no rfl rfl rfl rfl ?_
        first | refine g_pure (p_pickt rfl rfl) rfl ?_ | refine g_pure (p_pickf rfl rfl) rfl ?_
        refine g_pure (p_move rfl) rfl ?_
        refine g_no rfl rfl rfl rfl ?_
        refine g_no rfl rfl rfl rfl ?_
        refine g_no rfl rfl rfl rfl ?_
        first | refine g_pure (p_pickt rfl rfl) rfl ?_ | refine g_pure (p_pickf rfl rfl) rfl ?_
        refine g_nil <| g_qt ?_
        refine g_ift rfl ?_
        refine g_seq <| g_region ?_
        refine g_pure (p_assign rfl) rfl ?_
        refine g_nil <| g_qt <| g_ret <| g_qn_ret <| g_qt_ret ?_
        exact g_postA (rs := [.tmp 4]) rfl (.tmp rfl .nil) ⟨show Value.int .i64 3 = _ by (rw [o2 n1 (by omega)]), rfl⟩
      · refine g_yes rfl rfl ?_
        refine g_pure (p_fieldAddr rfl) rfl ?_
        refine g_yes rfl rfl ?_
        refine g_pure (p_loadA) rfl ?_
        refine g_yes rfl rfl ?_
        refine g_pure (p_len (by rfl) rfl) rfl ?_
        refine g_yes rfl rfl ?_
        refine g_pure (p_gtr rfl rfl) rfl ?_
        first | refine g_pure (p_pickt rfl rfl) rfl ?_ | refine g_pure (p_pickf rfl rfl) rfl ?_
        refine g_pure (p_move rfl) rfl ?_
        refine g_splitd rfl rfl (fun h10 => ?_) (fun h10 => ?_)
        · refine g_no rfl rfl rfl rfl ?_
          refine g_no rfl rfl rfl rfl ?_
          refine g_no rfl rfl rfl rfl ?_
          refine g_no rfl rfl rfl rfl ?_
          first | refine g_pure (p_pickt rfl rfl) rfl ?_ | refine g_pure (p_pickf rfl rfl) rfl ?_
          refine g_pure (p_move rfl) rfl ?_
          refine g_no rfl rfl rfl rfl ?_
          refine g_no rfl rfl rfl rfl ?_
          refine g_no rfl rfl rfl rfl ?_
          first | refine g_pure (p_pickt rfl rfl) rfl ?_ | refine g_pure (p_pickf rfl rfl) rfl ?_
          refine g_nil <| g_qt ?_
          refine g_ift rfl ?_
          refine g_seq <| g_region ?_
          refine g_pure (p_assign rfl) rfl ?_
          refine g_nil <| g_qt <| g_ret <| g_qn_ret <| g_qt_ret ?_
          exact g_postA (rs := [.tmp 4]) rfl (.tmp rfl .nil) ⟨show Value.int .i64 3 = _ by (rw [o2 n1 (by omega)]), rfl⟩
        · refine g_yes rfl rfl ?_
          refine g_pure (p_fieldAddr rfl) rfl ?_
          refine g_yes rfl rfl ?_
          refine g_pure (p_loadA) rfl ?_
          refine g_yes rfl rfl ?_
          refine g_pure (p_len (by rfl) rfl) rfl ?_
          refine g_yes rfl rfl ?_
          refine g_pure (p_gtr rfl rfl) rfl ?_
          first | refine g_pure (p_pickt rfl rfl) rfl ?_ | refine g_pure (p_pickf rfl rfl) rfl ?_
          refine g_pure (p_move rfl) rfl ?_
          refine g_splitd rfl rfl (fun h13 => ?_) (fun h13 => ?_)
          · refine g_no rfl rfl rfl rfl ?_
            refine g_no rfl rfl rfl rfl ?_
            refine g_no rfl rfl rfl rfl ?_
            first | refine g_pure (p_pickt rfl rfl) rfl ?_ | refine g_pure (p_pickf rfl rfl) rfl ?_
            refine g_nil <| g_qt ?_
            refine g_ift rfl ?_
            refine g_seq <| g_region ?_
            refine g_pure (p_assign rfl) rfl ?_
            refine g_nil <| g_qt <| g_ret <| g_qn_ret <| g_qt_ret ?_
            exact g_postA (rs := [.tmp 4]) rfl (.tmp rfl .nil) ⟨show Value.int .i64 3 = _ by (rw [o2 n1 (by omega)]), rfl⟩
          · refine g_yes rfl rfl ?_
            refine g_pure (p_fieldAddr rfl) rfl ?_
            refine g_yes rfl rfl ?_
            refine g_pure (p_loadA) rfl ?_
            refine g_yes rfl rfl ?_
            refine g_pure (p_gtr rfl rfl) rfl ?_
            first | refine g_pure (p_pickt rfl rfl) rfl ?_ | refine g_pure (p_pickf rfl rfl) rfl ?_
            refine g_nil <| g_qt ?_
            refine g_ifdL rfl (fun h15 => ?_) (fun h15 => ?_)
            · refine g_seq <| g_region ?_
              refine g_pure (p_assign rfl) rfl ?_
              refine g_nil <| g_qt <| g_ret <| g_qn_ret <| g_qt_ret ?_
              exact g_postA (rs := [.tmp 4]) rfl (.tmp rfl .nil) ⟨show Value.int .i64 3 = _ by (rw [o2 n1 (by omega)]), rfl⟩
            · refine g_skip <| g_qn ?_
              exact g_joinedA () (by omega)
  rintro _ n2
  refine g_qt ?_
  obtain ⟨o4, o5, o6⟩ := o3 n1 n2
  refine g_seq ?_
  refine g_join (fun _ : Unit => [(1, .int .i64 kr), (2, .pointer (some ⟨b2, 0, none⟩)), (5, .pointer (some ⟨b5, 0, none⟩))]) (fun _ => [Blk b2 (.cells [.slice ea im.1.length ec, .slice ra im.2.length rc].toArray 25 (0, 0)), Blk b5 (.cells [.string (strB x0.1), .slice ia x0.2.1.length ic, .slice oa x0.2.2.1.length oc, .int .i64 x0.2.2.2.1, .slice na x0.2.2.2.2.1.length nc, .slice ca x0.2.2.2.2.2.length cc].toArray 45 (0, 0))]) (fun _ => (!ya) = false ∧ (!yb) = false) ?_ ?_
  · refine g_seq <| g_region ?_
    refine g_pure (p_fieldAddr rfl) rfl ?_
    refine g_pure (p_loadA) rfl ?_
    refine g_pure (p_fieldAddr rfl) rfl ?_
    refine g_pure (p_loadA) rfl ?_
    refine g_call (Hin := []) (Hr := ?hr2) (R := ?rr2) rfl rfl rfl ?hin2 ?hc2 ?hk2
    case hin2 => repeat' (first | exact Cover.nil | exact Take.here | apply Cover.cons | apply Take.there)
    case hc2 => intro ρ' hρ hR; exact cA hρ
    rintro _ _ ⟨rfl, rfl⟩
    refine g_pure (p_not rfl) rfl ?_
    refine g_pure (p_move rfl) rfl ?_
    refine g_split rfl rfl (fun h1 => ?_) (fun h1 => ?_)
    · refine g_no rfl rfl rfl rfl ?_
      refine g_no rfl rfl rfl rfl ?_
      refine g_no rfl rfl rfl rfl ?_
      refine g_no rfl rfl rfl rfl ?_
      refine g_no rfl rfl rfl rfl ?_
      refine g_no rfl rfl rfl rfl ?_
      first | refine g_pure (p_pickt rfl rfl) rfl ?_ | refine g_pure (p_pickf rfl rfl) rfl ?_
      refine g_nil <| g_qt ?_
      refine g_ift rfl ?_
      refine g_seq <| g_region ?_
      refine g_pure (p_assign rfl) rfl ?_
      refine g_nil <| g_qt <| g_ret <| g_qn_ret <| g_qt_ret ?_
      first | exact g_postA (rs := [.tmp 4]) rfl (.tmp rfl .nil) ⟨show Value.int .i64 10 = _ by (rw [o4 (by assumption)]), rfl⟩ | exact g_postA (rs := [.tmp 4]) rfl (.tmp rfl .nil) ⟨show Value.int .i64 10 = _ by (rw [o5 (by assumption)]), rfl⟩
    · refine g_yes rfl rfl ?_
      refine g_pure (p_fieldAddr rfl) rfl ?_
      refine g_yes rfl rfl ?_
      refine g_pure (p_loadA) rfl ?_
      refine g_yes rfl rfl ?_
      refine g_pure (p_fieldAddr rfl) rfl ?_
      refine g_yes rfl rfl ?_
      refine g_pure (p_loadA) rfl ?_
      refine g_yes rfl rfl ?_
      refine g_call (Hin := []) (Hr := ?hr3) (R := ?rr3) rfl rfl rfl ?hin3 ?hc3 ?hk3
      case hin3 => repeat' (first | exact Cover.nil | exact Take.here | apply Cover.cons | apply Take.there)
      case hc3 => intro ρ' hρ hR; exact cB hρ
      rintro _ _ ⟨rfl, rfl⟩
      refine g_yes rfl rfl ?_
      refine g_pure (p_not rfl) rfl ?_
      first | refine g_pure (p_pickt rfl rfl) rfl ?_ | refine g_pure (p_pickf rfl rfl) rfl ?_
      refine g_nil <| g_qt ?_
      refine g_ifL rfl (fun h3 => ?_) (fun h3 => ?_)
      · refine g_seq <| g_region ?_
        refine g_pure (p_assign rfl) rfl ?_
        refine g_nil <| g_qt <| g_ret <| g_qn_ret <| g_qt_ret ?_
        first | exact g_postA (rs := [.tmp 4]) rfl (.tmp rfl .nil) ⟨show Value.int .i64 10 = _ by (rw [o4 (by assumption)]), rfl⟩ | exact g_postA (rs := [.tmp 4]) rfl (.tmp rfl .nil) ⟨show Value.int .i64 10 = _ by (rw [o5 (by assumption)]), rfl⟩
      · refine g_skip <| g_qn ?_
        exact g_joinedA () ⟨by assumption, by assumption⟩
  rintro _ ⟨n3, n4⟩
  refine g_qt ?_
  obtain ⟨o7, o8⟩ := o6 n3 n4
  refine g_seq ?_
  refine g_join (fun _ : Unit => [(1, .int .i64 kr), (2, .pointer (some ⟨b2, 0, none⟩)), (5, .pointer (some ⟨b5, 0, none⟩))]) (fun _ => [Blk b2 (.cells [.slice ea im.1.length ec, .slice ra im.2.length rc].toArray 25 (0, 0)), Blk b5 (.cells [.string (strB x0.1), .slice ia x0.2.1.length ic, .slice oa x0.2.2.1.length oc, .int .i64 x0.2.2.2.1, .slice na x0.2.2.2.2.1.length nc, .slice ca x0.2.2.2.2.2.length cc].toArray 45 (0, 0))]) (fun _ => R = if x0.2.2.2.2.1.any outB = true then 14 else codeE im.2 kr x0.2.2.2.2.2.length 0 x0.2.2.2.2.2) ?_ ?_
  · refine g_seq <| g_region ?_
    refine g_pure (p_fieldAddr rfl) rfl ?_
    refine g_pure (p_loadA) rfl ?_
    refine g_pure (p_fieldAddr rfl) rfl ?_
    refine g_pure (p_loadA) rfl ?_
    refine g_pure (p_len (by rfl) rfl) rfl ?_
    refine g_pure (p_fieldAddr rfl) rfl ?_
    refine g_pure (p_loadA) rfl ?_
    refine g_pure (p_len (by rfl) rfl) rfl ?_
    first | refine g_pure (p_addi rfl rfl (by omega)) rfl ?_ | refine g_pure (p_add rfl rfl) rfl ?_
    refine g_pure (p_lss rfl rfl) rfl ?_
    refine g_nil <| g_qt ?_
    refine g_ifdL rfl (fun h1 => ?_) (fun h1 => ?_)
    · refine g_seq <| g_region ?_
      refine g_pure (p_assign rfl) rfl ?_
      refine g_nil <| g_qt <| g_ret <| g_qn_ret <| g_qt_ret ?_
      exact g_postA (rs := [.tmp 4]) rfl (.tmp rfl .nil) ⟨show Value.int .i64 9 = _ by (rw [o7 (by omega)]), rfl⟩
    · refine g_skip <| g_qn ?_
      exact g_joinedA () (o8 (by omega))
  rintro _ hR2
  refine g_qt ?_
  rw [hR2]
  refine g_seq <| g_seq <| g_region ?_
  refine g_pure (p_assign rfl) rfl ?_
  refine g_nil <| g_qt <| g_block ?_
  refine g_loop (fun k : Nat => [(1, .int .i64 kr), (2, .pointer (some ⟨b2, 0, none⟩)), (5, .pointer (some ⟨b5, 0, none⟩)), (6, .int .i64 k)])
    (fun _ => [Blk b2 (.cells [.slice ea im.1.length ec, .slice ra im.2.length rc].toArray 25 (0, 0)), Blk b5 (.cells [.string (strB x0.1), .slice ia x0.2.1.length ic, .slice oa x0.2.2.1.length oc, .int .i64 x0.2.2.2.1, .slice na x0.2.2.2.2.1.length nc, .slice ca x0.2.2.2.2.2.length cc].toArray 45 (0, 0))])
    (fun k => k ≤ x0.2.2.2.2.1.length ∧ (x0.2.2.2.2.1.take k).any outB = false) (fun k => x0.2.2.2.2.1.length - k) 0 ⟨Nat.zero_le _, rfl⟩ (by (repeat (first | exact trivial | refine ⟨by rfl, ?_⟩)); done) (by repeat' (first | exact Cover.nil | exact Take.here | apply Cover.cons | apply Take.there)) ?_
  rintro k ⟨hk1, hk2⟩
  refine g_seq <| g_seq <| g_region ?_
  refine g_pure (p_move rfl) rfl ?_
  refine g_pure (p_fieldAddr rfl) rfl ?_
  refine g_pure (p_loadA) rfl ?_
  refine g_pure (p_len (by rfl) rfl) rfl ?_
  refine g_pure (p_lss rfl rfl) rfl ?_
  refine g_nil <| g_qt ?_
  refine g_ifd rfl (fun q => ?_) (fun q => ?_)
  · have hkl : k < x0.2.2.2.2.1.length := by omega
    obtain ⟨t1, t2⟩ := any_step hkl hk2
    have hx : cn[on + (k : Int).toNat * 1]? = some (.int .i64 x0.2.2.2.2.1[k]) := by
      rw [Int.toNat_natCast, Nat.mul_one]
      exact (hnr (by omega)).2.2 k _ (by simp [List.getElem?_eq_getElem hkl]; rfl)
    generalize x0.2.2.2.2.1[k] = z at t1 t2 hx
    have b1 : -32768 ≤ z ∧ z ≤ 32767 → outB z = false := fun h => by unfold outB; rw [decide_eq_false (by omega), decide_eq_false (by omega)]; rfl
    have b2' : ¬ (-32768 ≤ z ∧ z ≤ 32767) → outB z = true := fun h => by
      unfold outB
      by_cases h1 : z < -32768
      · rw [decide_eq_true h1]; rfl
      · rw [decide_eq_true (p := 32767 < z) (by omega), Bool.or_true]
    refine g_skip <| g_qt <| g_seq <| g_block <| g_seq <| g_region ?_
    refine g_pure (p_fieldAddr rfl) rfl ?_
    refine g_pure (p_loadA) rfl ?_
    refine g_pure (p_move rfl) rfl ?_
    refine g_pure (p_indexAddr rfl rfl (by omega) (fun _ => (hnr (by omega)).1)) rfl ?_
    refine g_pure (p_load (by rfl) rfl (Has.ro (hnr (by omega)).2.1) hx) rfl ?_
    refine g_pure (p_lss rfl rfl) rfl ?_
    refine g_pure (p_move rfl) rfl ?_
    refine g_splitd rfl rfl (fun h1 => ?_) (fun h1 => ?_)
    · refine g_no rfl rfl rfl rfl ?_
      refine g_no rfl rfl rfl rfl ?_
      refine g_no rfl rfl rfl rfl ?_
      refine g_no rfl rfl rfl rfl ?_
      refine g_no rfl rfl rfl rfl ?_
      refine g_no rfl rfl rfl rfl ?_
      first | refine g_pure (p_pickt rfl rfl) rfl ?_ | refine g_pure (p_pickf rfl rfl) rfl ?_
      refine g_nil <| g_qt ?_
      refine g_ift rfl ?_
      refine g_seq <| g_region ?_
      refine g_pure (p_assign rfl) rfl ?_
      refine g_nil <| g_qt <| g_ret <| g_qb_ret <| g_qt_ret <| g_qn_ret <| g_qb_ret <| g_qt_ret ?_
      exact g_postA (rs := [.tmp 4]) rfl (.tmp rfl .nil) ⟨by rw [if_pos (t2 (b2' (by omega)))]; rfl, rfl⟩
    · refine g_yes rfl rfl ?_
      refine g_pure (p_fieldAddr rfl) rfl ?_
      refine g_yes rfl rfl ?_
      refine g_pure (p_loadA) rfl ?_
      refine g_yes rfl rfl ?_
      refine g_pure (p_move rfl) rfl ?_
      refine g_yes rfl rfl ?_
      refine g_pure (p_indexAddr rfl rfl (by omega) (fun _ => (hnr (by omega)).1)) rfl ?_
      refine g_yes rfl rfl ?_
      refine g_pure (p_load (by rfl) rfl (Has.ro (hnr (by omega)).2.1) hx) rfl ?_
      refine g_yes rfl rfl ?_
      refine g_pure (p_gtr rfl rfl) rfl ?_
      first | refine g_pure (p_pickt rfl rfl) rfl ?_ | refine g_pure (p_pickf rfl rfl) rfl ?_
      refine g_nil <| g_qt ?_
      refine g_ifdL rfl (fun h3 => ?_) (fun h3 => ?_)
      · refine g_seq <| g_region ?_
        refine g_pure (p_assign rfl) rfl ?_
        refine g_nil <| g_qt <| g_ret <| g_qb_ret <| g_qt_ret <| g_qn_ret <| g_qb_ret <| g_qt_ret ?_
        exact g_postA (rs := [.tmp 4]) rfl (.tmp rfl .nil) ⟨by rw [if_pos (t2 (b2' (by omega)))]; rfl, rfl⟩
      · refine g_skip <| g_qb <| g_qt <| g_region ?_
        refine g_pure (p_move rfl) rfl ?_
        first | refine g_pure (p_addi rfl rfl (by omega)) rfl ?_ | refine g_pure (p_add rfl rfl) rfl ?_
        refine g_pure (p_assign rfl) rfl ?_
        refine g_nil <| g_qn ?_
        exact g_nextA (k + 1) ⟨hkl, t1 (b1 (by omega))⟩ (by omega)
  · rw [List.take_of_length_le (by omega)] at hk2
    rw [if_neg (by rw [hk2]; decide)]
    refine g_exit <| g_qt_exit <| g_qn_exit <| g_qb_exit <| g_qt <| g_seq <| g_seq <| g_region ?_
    refine g_pure (p_assign rfl) rfl ?_
    refine g_nil <| g_qt <| g_block ?_
    refine g_loop (fun k : Nat => [(1, .int .i64 kr), (2, .pointer (some ⟨b2, 0, none⟩)), (5, .pointer (some ⟨b5, 0, none⟩)), (7, .int .i64 k)])
      (fun _ => [Blk b2 (.cells [.slice ea im.1.length ec, .slice ra im.2.length rc].toArray 25 (0, 0)), Blk b5 (.cells [.string (strB x0.1), .slice ia x0.2.1.length ic, .slice oa x0.2.2.1.length oc, .int .i64 x0.2.2.2.1, .slice na x0.2.2.2.2.1.length nc, .slice ca x0.2.2.2.2.2.length cc].toArray 45 (0, 0))])
      (fun k => k ≤ x0.2.2.2.2.2.length ∧ codeE im.2 kr x0.2.2.2.2.2.length 0 x0.2.2.2.2.2 = codeE im.2 kr x0.2.2.2.2.2.length k (x0.2.2.2.2.2.drop k)) (fun k => x0.2.2.2.2.2.length - k) 0 ⟨Nat.zero_le _, rfl⟩ (by (repeat (first | exact trivial | refine ⟨by rfl, ?_⟩)); done) (by repeat' (first | exact Cover.nil | exact Take.here | apply Cover.cons | apply Take.there)) ?_
    rintro k ⟨hk, hk2⟩
    rw [hk2]
    refine g_seq <| g_seq <| g_region ?_
    refine g_pure (p_move rfl) rfl ?_
    refine g_pure (p_fieldAddr rfl) rfl ?_
    refine g_pure (p_loadA) rfl ?_
    refine g_pure (p_len (by rfl) rfl) rfl ?_
    refine g_pure (p_lss rfl rfl) rfl ?_
    refine g_nil <| g_qt ?_
    refine g_ifd rfl (fun q => ?_) (fun q => ?_)
    · have hkl : k < x0.2.2.2.2.2.length := by omega
      obtain ⟨c1, c2, c3⟩ := hcr (by omega)
      have c4 := (c3 k hkl).1 (by decide)
      rw [codeE_step im.2 kr x0.2.2.2.2.2.length x0.2.2.2.2.2 hkl] at hk2 ⊢
      generalize x0.2.2.2.2.2[k] = ii at c4 hk2
      refine g_skip <| g_qt <| g_seq <| g_block <| g_seq <| g_seq ?_
      refine m_begin0 (.fl 0 0 (.fl 1 1 (.fl 2 0 (.fl 3 0 (.fl 4 1 (.fl 5 0 (.fl 6 0 (.fl 7 1 (.fl 8 0 (.ef 9 (.fl 10 0 .done))))))))))) (by kernel_rfl) (by kernel_rfl) ?_
      refine m_float0 rfl (fun _ _ => p_fieldAddr rfl) rfl ?_
      refine m_float rfl (p_loadA) rfl ?_
      refine m_float0 rfl (fun _ _ => p_move rfl) rfl ?_
      refine m_float0 rfl (fun _ _ => p_indexAddr rfl rfl (by omega) (fun _ => c1)) rfl ?_
      refine m_float rfl (p_loadN (by rfl) rfl (Has.ro c2) (by rw [Int.toNat_natCast]; exact c4)) rfl ?_
      refine m_float0 rfl (fun _ _ => p_move rfl) rfl ?_
      refine m_float0 rfl (fun _ _ => p_fieldAddr rfl) rfl ?_
      refine m_float rfl (p_loadA) rfl ?_
      refine m_float0 rfl (fun _ _ => p_len (by rfl) rfl) rfl ?_
      refine m_call (Hin := []) (Hr := ?hr4) (R := ?rr4) rfl wantedN rfl rfl rfl ?hin4 ?hc4 ?hk4
      case hin4 => repeat' (first | exact Cover.nil | exact Take.here | apply Cover.cons | apply Take.there)
      case hc4 => intro ρ' hρ hR; exact rform_ok ii k x0.2.2.2.2.2.length
      rintro _ _ ⟨rfl, rfl⟩
      refine ⟨.none (by kernel_rfl), ?_⟩
      refine m_float0 rfl (fun _ _ => p_not rfl) rfl ?_
      refine m_nil ?_
      refine g_qt ?_
      refine g_if rfl (fun h8 => ?_) (fun h8 => ?_)
      · have h8' : formP x0.2.2.2.2.2.length k ii = false := by simpa using h8
        refine g_seq <| g_region ?_
        refine g_pure (p_assign rfl) rfl ?_
        refine g_nil <| g_qt <| g_ret <| g_qt_ret <| g_qb_ret <| g_qt_ret <| g_qn_ret <| g_qb_ret ?_
        refine g_qt_ret ?_
        exact g_postA (rs := [.tmp 4]) rfl (.tmp rfl .nil) ⟨by rw [h8']; rfl, rfl⟩
      · have h8' : formP x0.2.2.2.2.2.length k ii = true := by simpa using h8
        rw [h8', if_pos rfl] at hk2 ⊢
        refine g_skip <| g_qt <| g_seq ?_
        refine m_begin0 (.fl 0 1 (.fl 1 0 (.fl 2 0 (.fl 3 1 (.fl 4 0 (.fl 5 0 (.fl 6 1 (.ef 7 (.fl 8 0 .done))))))))) (by kernel_rfl) (by kernel_rfl) ?_
        first | refine m_float rfl (p_loadO (by rfl) rfl (by first | (apply Has.own; (repeat' (first | exact Take.here | apply Take.there)); done) | exact Has.ro (by assumption)) (by rfl)) rfl ?_ | refine m_float rfl (p_loadN (by rfl) rfl (by first | (apply Has.own; (repeat' (first | exact Take.here | apply Take.there)); done) | exact Has.ro (by assumption)) (by first | rfl | assumption)) rfl ?_
        refine m_float0 rfl (fun _ _ => p_move rfl) rfl ?_
        refine m_float0 rfl (fun _ _ => p_fieldAddr rfl) rfl ?_
        refine m_float rfl (p_loadA) rfl ?_
        refine m_float0 rfl (fun _ _ => p_move rfl) rfl ?_
        refine m_float0 rfl (fun _ _ => p_indexAddr rfl rfl (by omega) (fun _ => c1)) rfl ?_
        refine m_float rfl (p_loadN (by rfl) rfl (Has.ro c2) (by rw [Int.toNat_natCast]; exact c4)) rfl ?_
        refine m_call (Hin := []) (Hr := ?hr5) (R := ?rr5) rfl wantedN rfl rfl rfl ?hin5 ?hc5 ?hk5
        case hin5 => repeat' (first | exact Cover.nil | exact Take.here | apply Cover.cons | apply Take.there)
        case hc5 => intro ρ' hρ hR; exact rranges_ok (ec := ec) (rc := rc) (h.mono hρ) kr hkr ii
        rintro _ _ ⟨rfl, rfl⟩
        refine ⟨.none (by kernel_rfl), ?_⟩
        refine m_float0 rfl (fun _ _ => p_not rfl) rfl ?_
        refine m_nil ?_
        refine g_qt ?_
        refine g_if rfl (fun h9 => ?_) (fun h9 => ?_)
        · have h9' : rangesP im.2 kr ii = false := by simpa using h9
          refine g_seq <| g_region ?_
          refine g_pure (p_assign rfl) rfl ?_
          refine g_nil <| g_qt <| g_ret <| g_qb_ret <| g_qt_ret <| g_qn_ret <| g_qb_ret <| g_qt_ret ?_
          exact g_postA (rs := [.tmp 4]) rfl (.tmp rfl .nil) ⟨by rw [h9']; rfl, rfl⟩
        · have h9' : rangesP im.2 kr ii = true := by simpa using h9
          rw [h9', if_pos rfl] at hk2 ⊢
          refine g_skip <| g_qb <| g_qt <| g_region ?_
          refine g_pure (p_move rfl) rfl ?_
          first | refine g_pure (p_addi rfl rfl (by omega)) rfl ?_ | refine g_pure (p_add rfl rfl) rfl ?_
          refine g_pure (p_assign rfl) rfl ?_
          refine g_nil <| g_qn ?_
          rw [← hk2]
          exact g_nextA (k + 1) ⟨hkl, hk2⟩ (by omega)
    · have hke : k = x0.2.2.2.2.2.length := by omega
      subst hke
      refine g_exit <| g_qt_exit <| g_qn_exit <| g_qb_exit <| g_qt <| g_seq <| g_region ?_
      refine g_pure (p_assign rfl) rfl ?_
      refine g_nil <| g_qt <| g_ret ?_
      exact g_postA (rs := [.tmp 4]) rfl (.tmp rfl .nil) ⟨by rw [List.drop_eq_nil_of_le (Nat.le_refl _)]; rfl, rfl⟩

theorem rcheck_ok {ρ : Nat → Obj → Prop} {ea ra : Option Addr} {ec rc : Nat} {im : Im} (h : ImI ρ ea ra im) :
    Con Tryz.prog ρ 15 #[.agg #[.slice ea im.1.length ec, .slice ra im.2.length rc]] [] (fun v H => v = .int .i64 (checkP im) ∧ H = []) := by
  have hrl := h.rl
  have hel := h.el
  obtain ⟨_, be, oe, ce, Te, fe, her⟩ := h.es
  obtain ⟨R, hR⟩ : ∃ R, checkP im = R := ⟨_, rfl⟩
  have c1 : (24 < im.1.length ∨ 96 < im.2.length) → R = 3 := fun h => by rw [← hR]; unfold checkP; rw [if_pos h]
  have c2 : ¬ (24 < im.1.length ∨ 96 < im.2.length) → im.1.any (fun n => decide (n < 1) || decide (16 < n)) = true → R = 14 := fun h h2 => by rw [← hR]; unfold checkP; rw [if_neg h, if_pos h2]
  have c3 : ¬ (24 < im.1.length ∨ 96 < im.2.length) → im.1.any (fun n => decide (n < 1) || decide (16 < n)) = false → im.2.length = 0 → R = 5 := fun h h2 h3 => by rw [← hR]; unfold checkP; rw [if_neg h, h2, if_neg (by decide), if_pos h3]
  have c4 : ¬ (24 < im.1.length ∨ 96 < im.2.length) → im.1.any (fun n => decide (n < 1) || decide (16 < n)) = false → ¬ im.2.length = 0 → R = rtsE im 0 (im.2.length - 0) := fun h h2 h3 => by rw [← hR]; unfold checkP; rw [if_neg h, h2, if_neg (by decide), if_neg h3]; rfl
  rw [hR]
  refine con_intro Tryz.func15 Tryz.call15 rfl Tryz.ntmps15 rfl (L := [(0, _)]) rfl fun w hh => ?_
  refine g_seq <| g_region ?_
  refine g_eff (e_box rfl (by rfl)) rfl (fun _ _ => ?_)
  rintro ⟨b1, rfl, rfl⟩
  refine g_pure (p_assign rfl) rfl ?_
  refine g_nil <| g_qt <| g_seq ?_
  refine g_join (fun _ : Unit => [(1, .pointer (some ⟨b1, 0, none⟩))]) (fun _ => [Blk b1 (.cells [.slice ea im.1.length ec, .slice ra im.2.length rc].toArray 25 (0, 0))]) (fun _ => ¬ (24 < im.1.length ∨ 96 < im.2.length)) ?_ ?_
  · refine g_seq <| g_region ?_
    refine g_pure (p_fieldAddr rfl) rfl ?_
    refine g_pure (p_loadA) rfl ?_
    refine g_pure (p_len (by rfl) rfl) rfl ?_
    refine g_pure (p_gtr rfl rfl) rfl ?_
    refine g_pure (p_move rfl) rfl ?_
    refine g_splitd rfl rfl (fun h1 => ?_) (fun h1 => ?_)
    · refine g_no rfl rfl rfl rfl ?_
      refine g_no rfl rfl rfl rfl ?_
      refine g_no rfl rfl rfl rfl ?_
      refine g_no rfl rfl rfl rfl ?_
      first | refine g_pure (p_pickt rfl rfl) rfl ?_ | refine g_pure (p_pickf rfl rfl) rfl ?_
      refine g_nil <| g_qt ?_
      refine g_ift rfl ?_
      refine g_seq <| g_region ?_
      refine g_pure (p_assign rfl) rfl ?_
      refine g_nil <| g_qt <| g_ret <| g_qn_ret <| g_qt_ret ?_
      exact g_postA (rs := [.tmp 2]) rfl (.tmp rfl .nil) ⟨by rw [c1 (by omega)]; rfl, rfl⟩
    · refine g_yes rfl rfl ?_
      refine g_pure (p_fieldAddr rfl) rfl ?_
      refine g_yes rfl rfl ?_
      refine g_pure (p_loadA) rfl ?_
      refine g_yes rfl rfl ?_
      refine g_pure (p_len (by rfl) rfl) rfl ?_
      refine g_yes rfl rfl ?_
      refine g_pure (p_gtr rfl rfl) rfl ?_
      first | refine g_pure (p_pickt rfl rfl) rfl ?_ | refine g_pure (p_pickf rfl rfl) rfl ?_
      refine g_nil <| g_qt ?_
      refine g_ifdL rfl (fun h3 => ?_) (fun h3 => ?_)
      · refine g_seq <| g_region ?_
        refine g_pure (p_assign rfl) rfl ?_
        refine g_nil <| g_qt <| g_ret <| g_qn_ret <| g_qt_ret ?_
        exact g_postA (rs := [.tmp 2]) rfl (.tmp rfl .nil) ⟨by rw [c1 (by omega)]; rfl, rfl⟩
      · refine g_skip <| g_qn ?_
        exact g_joinedA () (by omega)
  rintro _ hn
  refine g_qt <| g_seq <| g_seq <| g_region ?_
  refine g_pure (p_assign rfl) rfl ?_
  refine g_nil <| g_qt <| g_block ?_
  refine g_loop (fun k : Nat => [(1, .pointer (some ⟨b1, 0, none⟩)), (3, .int .i64 k)]) (fun _ => [Blk b1 (.cells [.slice ea im.1.length ec, .slice ra im.2.length rc].toArray 25 (0, 0))]) (fun k => k ≤ im.1.length ∧ (im.1.take k).any (fun n => decide (n < 1) || decide (16 < n)) = false) (fun k => im.1.length - k) 0 ⟨Nat.zero_le _, rfl⟩ (by (repeat (first | exact trivial | refine ⟨by rfl, ?_⟩)); done) (by repeat' (first | exact Cover.nil | exact Take.here | apply Cover.cons | apply Take.there)) ?_
  rintro k ⟨hk1, hk2⟩
  refine g_seq <| g_seq <| g_region ?_
  refine g_pure (p_move rfl) rfl ?_
  refine g_pure (p_fieldAddr rfl) rfl ?_
  refine g_pure (p_loadA) rfl ?_
  refine g_pure (p_len (by rfl) rfl) rfl ?_
  refine g_pure (p_lss rfl rfl) rfl ?_
  refine g_nil <| g_qt ?_
  refine g_ifd rfl (fun q => ?_) (fun q => ?_)
  · have hkl : k < im.1.length := by omega
    obtain ⟨t1, t2⟩ := any_step hkl hk2
    have hx : ce[oe + (k : Int).toNat * 1]? = some (.int .i64 im.1[k]) := by
      rw [Int.toNat_natCast, Nat.mul_one]
      exact (her (by omega)).2.2 k _ (by simp [List.getElem?_eq_getElem hkl]; rfl)
    generalize im.1[k] = z at t1 t2 hx
    have d1 : 1 ≤ z ∧ z ≤ 16 → (decide (z < 1) || decide (16 < z)) = false := fun h => by rw [decide_eq_false (by omega), decide_eq_false (by omega)]; rfl
    have d2 : ¬ (1 ≤ z ∧ z ≤ 16) → (decide (z < 1) || decide (16 < z)) = true := fun h => by
      by_cases h1 : z < 1
      · rw [decide_eq_true h1]; rfl
      · rw [decide_eq_true (p := 16 < z) (by omega), Bool.or_true]
    refine g_skip <| g_qt <| g_seq <| g_block <| g_seq <| g_region ?_
    refine g_pure (p_fieldAddr rfl) rfl ?_
    refine g_pure (p_loadA) rfl ?_
    refine g_pure (p_move rfl) rfl ?_
    refine g_pure (p_indexAddr rfl rfl (by omega) (fun _ => (her (by omega)).1)) rfl ?_
    refine g_pure (p_load (by rfl) rfl (Has.ro (her (by omega)).2.1) hx) rfl ?_
    refine g_pure (p_lss rfl rfl) rfl ?_
    refine g_pure (p_move rfl) rfl ?_
    refine g_splitd rfl rfl (fun h1 => ?_) (fun h1 => ?_)
    · refine g_no rfl rfl rfl rfl ?_
      refine g_no rfl rfl rfl rfl ?_
      refine g_no rfl rfl rfl rfl ?_
      refine g_no rfl rfl rfl rfl ?_
      refine g_no rfl rfl rfl rfl ?_
      refine g_no rfl rfl rfl rfl ?_
      first | refine g_pure (p_pickt rfl rfl) rfl ?_ | refine g_pure (p_pickf rfl rfl) rfl ?_
      refine g_nil <| g_qt ?_
      refine g_ift rfl ?_
      refine g_seq <| g_region ?_
      refine g_pure (p_assign rfl) rfl ?_
      refine g_nil <| g_qt <| g_ret <| g_qb_ret <| g_qt_ret <| g_qn_ret <| g_qb_ret <| g_qt_ret ?_
      exact g_postA (rs := [.tmp 2]) rfl (.tmp rfl .nil) ⟨by rw [c2 hn (t2 (d2 (by omega)))]; rfl, rfl⟩
    · refine g_yes rfl rfl ?_
      refine g_pure (p_fieldAddr rfl) rfl ?_
      refine g_yes rfl rfl ?_
      refine g_pure (p_loadA) rfl ?_
      refine g_yes rfl rfl ?_
      refine g_pure (p_move rfl) rfl ?_
      refine g_yes rfl rfl ?_
      refine g_pure (p_indexAddr rfl rfl (by omega) (fun _ => (her (by omega)).1)) rfl ?_
      refine g_yes rfl rfl ?_
      refine g_pure (p_load (by rfl) rfl (Has.ro (her (by omega)).2.1) hx) rfl ?_
      refine g_yes rfl rfl ?_
      refine g_pure (p_gtr rfl rfl) rfl ?_
      first | refine g_pure (p_pickt rfl rfl) rfl ?_ | refine g_pure (p_pickf rfl rfl) rfl ?_
      refine g_nil <| g_qt ?_
      refine g_ifdL rfl (fun h3 => ?_) (fun h3 => ?_)
      · refine g_seq <| g_region ?_
        refine g_pure (p_assign rfl) rfl ?_
        refine g_nil <| g_qt <| g_ret <| g_qb_ret <| g_qt_ret <| g_qn_ret <| g_qb_ret <| g_qt_ret ?_
        exact g_postA (rs := [.tmp 2]) rfl (.tmp rfl .nil) ⟨by rw [c2 hn (t2 (d2 (by omega)))]; rfl, rfl⟩
      · refine g_skip <| g_qb <| g_qt <| g_region ?_
        refine g_pure (p_move rfl) rfl ?_
        first | refine g_pure (p_addi rfl rfl (by omega)) rfl ?_ | refine g_pure (p_add rfl rfl) rfl ?_
        refine g_pure (p_assign rfl) rfl ?_
        refine g_nil <| g_qn ?_
        exact g_nextA (k + 1) ⟨hkl, t1 (d1 (by omega))⟩ (by omega)
  · rw [List.take_of_length_le (by omega)] at hk2
    refine g_exit <| g_qt_exit <| g_qn_exit <| g_qb_exit <| g_qt <| g_seq <| g_seq <| g_region ?_
    refine g_pure (p_fieldAddr rfl) rfl ?_
    refine g_pure (p_loadA) rfl ?_
    refine g_pure (p_len (by rfl) rfl) rfl ?_
    refine g_pure (p_eql rfl rfl) rfl ?_
    refine g_nil <| g_qt ?_
    refine g_ifd rfl (fun q2 => ?_) (fun q2 => ?_)
    · refine g_seq <| g_region ?_
      refine g_pure (p_assign rfl) rfl ?_
      refine g_nil <| g_qt <| g_ret <| g_qt_ret ?_
      exact g_postA (rs := [.tmp 2]) rfl (.tmp rfl .nil) ⟨by rw [c3 hn hk2 (by omega)]; rfl, rfl⟩
    · rw [c4 hn hk2 (by omega)]
      refine g_skip <| g_qt <| g_seq <| g_seq <| g_region ?_
      refine g_pure (p_assign rfl) rfl ?_
      refine g_nil <| g_qt <| g_block ?_
      refine g_loop (fun k : Nat => [(1, .pointer (some ⟨b1, 0, none⟩)), (4, .int .i64 k)])
        (fun _ => [Blk b1 (.cells [.slice ea im.1.length ec, .slice ra im.2.length rc].toArray 25 (0, 0))])
        (fun k => k ≤ im.2.length ∧ rtsE im 0 (im.2.length - 0) = rtsE im k (im.2.length - k)) (fun k => im.2.length - k) 0 ⟨Nat.zero_le _, rfl⟩ (by (repeat (first | exact trivial | refine ⟨by rfl, ?_⟩)); done) (by repeat' (first | exact Cover.nil | exact Take.here | apply Cover.cons | apply Take.there)) ?_
      rintro k ⟨hk, hk2⟩
      rw [hk2]
      refine g_seq <| g_seq <| g_region ?_
      refine g_pure (p_move rfl) rfl ?_
      refine g_pure (p_fieldAddr rfl) rfl ?_
      refine g_pure (p_loadA) rfl ?_
      refine g_pure (p_len (by rfl) rfl) rfl ?_
      refine g_pure (p_lss rfl rfl) rfl ?_
      refine g_nil <| g_qt ?_
      refine g_ifd rfl (fun q => ?_) (fun q => ?_)
      · have hkl : k < im.2.length := by omega
        rw [rtsE_step im hkl] at hk2 ⊢
        refine g_skip <| g_qt <| g_seq <| g_block <| g_seq <| g_region ?_
        first | refine g_pure (p_loadO (by rfl) rfl (by first | (apply Has.own; (repeat' (first | exact Take.here | apply Take.there)); done) | exact Has.ro (by assumption)) (by rfl)) rfl ?_ | refine g_pure (p_loadN (by rfl) rfl (by first | (apply Has.own; (repeat' (first | exact Take.here | apply Take.there)); done) | exact Has.ro (by assumption)) (by first | rfl | assumption)) rfl ?_
        refine g_pure (p_move rfl) rfl ?_
        refine g_call (Hin := []) (Hr := ?hr6) (R := ?rr6) rfl rfl rfl ?hin6 ?hc6 ?hk6
        case hin6 => repeat' (first | exact Cover.nil | exact Take.here | apply Cover.cons | apply Take.there)
        case hc6 => intro ρ' hρ hR; exact rroutine_ok (ec := ec) (rc := rc) (h.mono hρ) k hkl
        rintro _ _ ⟨rfl, rfl⟩
        refine g_pure (p_assign rfl) rfl ?_
        refine g_nil <| g_qt <| g_seq <| g_region ?_
        refine g_pure (p_move rfl) rfl ?_
        refine g_pure (p_neq rfl rfl) rfl ?_
        refine g_nil <| g_qt ?_
        generalize oneP im k = E0 at hk2 ⊢
        refine g_ifnd rfl (fun h5 => ?_) (fun h5 => ?_)
        · refine g_seq <| g_region ?_
          refine g_pure (p_move rfl) rfl ?_
          refine g_pure (p_assign rfl) rfl ?_
          refine g_nil <| g_qt <| g_ret <| g_qb_ret <| g_qt_ret <| g_qn_ret <| g_qb_ret <| g_qt_ret ?_
          exact g_postA (rs := [.tmp 2]) rfl (.tmp rfl .nil) ⟨by rw [if_neg h5]; rfl, rfl⟩
        · rw [if_pos (by omega)] at hk2 ⊢
          refine g_skip <| g_qb <| g_qt <| g_region ?_
          refine g_pure (p_move rfl) rfl ?_
          first | refine g_pure (p_addi rfl rfl (by omega)) rfl ?_ | refine g_pure (p_add rfl rfl) rfl ?_
          refine g_pure (p_assign rfl) rfl ?_
          refine g_nil <| g_qn ?_
          rw [← hk2]
          exact g_nextA (k + 1) ⟨hkl, hk2⟩ (by omega)
      · rw [show im.2.length - k = 0 by omega]
        refine g_exit <| g_qt_exit <| g_qn_exit <| g_qb_exit <| g_qt <| g_seq <| g_region ?_
        refine g_pure (p_assign rfl) rfl ?_
        refine g_nil <| g_qt <| g_ret ?_
        exact g_postA (rs := [.tmp 2]) rfl (.tmp rfl .nil) ⟨rfl, rfl⟩
end Go.Proofs.YtcnfcoojmbjdlaaGreatDoor
/- Chapter 26: the document's text of an image. Conditions: none. -/
namespace Go.Z.Asm
set_option maxRecDepth 8000
set_option linter.unusedVariables false
set_option linter.unusedSimpArgs false
set_option linter.unusedSectionVars false
open Go Go.Z Go.Lib Go.Z.Txt Go.Z.Val
theorem fields_used {i : Ins} (h : knownP i.1) : (fieldsR i.1).map (fieldI i) = usedP i := by
  obtain ⟨op, A, B, C, D⟩ := i
  dsimp only at h ⊢
  rcases op_cases h with rfl | rfl | rfl | rfl | rfl | rfl | rfl | rfl | rfl | rfl <;> rfl
theorem fieldsR_len (op : Int) : (fieldsR op).length ≤ 4 := by
  unfold fieldsR
  split
  · rename_i h; rcases op_cases h with h | h | h | h | h | h | h | h | h | h <;> rw [h] <;> decide
  · decide
theorem map_step {α β : Type} (f : α → β) (l : List α) {k : Nat} (hk : k < l.length) : (l.take (k + 1)).map f = (l.take k).map f ++ [f l[k]] := by
  rw [List.take_add_one, List.getElem?_eq_getElem hk, Option.toList_some, List.map_append]; rfl
theorem lineP_len2 (w : List UInt8) (l : List Int) (h : ∀ x ∈ l, okI x) : (lineP w l).length ≤ w.length + 12 * l.length + 1 := by
  have := midP_len w l h
  unfold midP at this
  unfold lineP
  rw [List.length_append, List.length_singleton]; omega
end Go.Z.Asm
namespace Go.Proofs.YtcnfcoojmbjdlaaGreatDoor
set_option maxRecDepth 8000
set_option linter.unusedVariables false
set_option linter.unusedSimpArgs false
set_option linter.unusedSectionVars false
open Go Go.Z Go.Z.Asm Go.RowKit Go.Lib

set_option maxHeartbeats 400000 in
theorem rtext_ok {ρ : Nat → Obj → Prop} {ea ra : Option Addr} {ec rc : Nat} {im : Im} (h : ImI ρ ea ra im) :
    Con Tryz.prog ρ 24 #[.agg #[.slice ea im.1.length ec, .slice ra im.2.length rc]] [] (fun v H => v = .tuple #[.string (strB (if checkP im = 0 then textP im else [])), .int .i64 (checkP im)] ∧ H = []) := by
  have hrl := h.rl
  have hel := h.el
  refine con_intro Tryz.func24 Tryz.call24 rfl Tryz.ntmps24 rfl (L := [(0, _)]) rfl fun w hh => ?_
  refine g_seq <| g_region ?_
  refine g_eff (e_box rfl (by rfl)) rfl (fun _ _ => ?_)
  rintro ⟨b1, rfl, rfl⟩
  refine g_pure (p_assign rfl) rfl ?_
  refine g_pure (p_assign rfl) rfl ?_
  refine g_nil <| g_qt <| g_seq <| g_seq <| g_region ?_
  first | refine g_pure (p_loadO (by rfl) rfl (by first | (apply Has.own; (repeat' (first | exact Take.here | apply Take.there)); done) | exact Has.ro (by assumption)) (by rfl)) rfl ?_ | refine g_pure (p_loadN (by rfl) rfl (by first | (apply Has.own; (repeat' (first | exact Take.here | apply Take.there)); done) | exact Has.ro (by assumption)) (by first | rfl | assumption)) rfl ?_
  refine g_call (Hin := []) (Hr := ?hr1) (R := ?rr1) rfl rfl rfl ?hin1 ?hc1 ?hk1
  case hin1 => repeat' (first | exact Cover.nil | exact Take.here | apply Cover.cons | apply Take.there)
  case hc1 => intro ρ' hρ hR; exact rcheck_ok (ec := ec) (rc := rc) (h.mono hρ)
  rintro _ _ ⟨rfl, rfl⟩
  refine g_pure (p_assign rfl) rfl ?_
  refine g_nil <| g_qt <| g_seq <| g_region ?_
  refine g_pure (p_move rfl) rfl ?_
  refine g_pure (p_neq rfl rfl) rfl ?_
  refine g_nil <| g_qt ?_
  generalize hE : checkP im = E
  refine g_ifnd rfl (fun h1 => ?_) (fun h1 => ?_)
  · refine g_seq <| g_region ?_
    refine g_pure (p_move rfl) rfl ?_
    refine g_pure (p_assign rfl) rfl ?_
    refine g_pure (p_assign rfl) rfl ?_
    refine g_nil <| g_qt <| g_ret <| g_qt_ret ?_
    exact g_postA (rs := [.tmp 2, .tmp 3]) rfl (.tmp rfl (.tmp rfl .nil)) ⟨by rw [if_neg h1]; rfl, rfl⟩
  · have h1' : E = 0 := by omega
    subst h1'
    obtain ⟨g1, g2, g3, g4⟩ := checkP_zero hE
    obtain ⟨t1, t2⟩ := txt_ok hE
    rw [if_pos rfl]
    have hee := lineP_len2 [101, 110, 117, 109, 115] im.1 t1
    simp only [List.length_cons, List.length_nil] at hee
    refine g_skip <| g_qt <| g_seq <| g_region ?_
    refine g_pure (p_fieldAddr rfl) rfl ?_
    refine g_pure (p_loadA) rfl ?_
    refine g_call (Hin := []) (Hr := ?hr2) (R := ?rr2) rfl rfl rfl ?hin2 ?hc2 ?hk2
    case hin2 => repeat' (first | exact Cover.nil | exact Take.here | apply Cover.cons | apply Take.there)
    case hc2 => intro ρ' hρ hR; exact rline_ok [101, 110, 117, 109, 115] ea ec im.1 (h.es.mono hρ) t1 (by simp; omega)
    rintro _ _ ⟨rfl, rfl⟩
    refine g_pure (p_assign rfl) rfl ?_
    refine g_nil <| g_qt <| g_seq <| g_seq <| g_region ?_
    refine g_pure (p_assign rfl) rfl ?_
    refine g_nil <| g_qt <| g_block ?_
    have hCe : lineP [101, 110, 117, 109, 115] im.1 = lineP [101, 110, 117, 109, 115] im.1 ++ ((im.2.take 0).map rtT).flatten := by simp
    have hCl : (lineP [101, 110, 117, 109, 115] im.1 ++ ((im.2.take 0).map rtT).flatten).length ≤ 1000 + 0 * 5000000 := by rw [← hCe]; omega
    rw [hCe]
    refine g_loop (fun k : Nat => [(1, .pointer (some ⟨b1, 0, none⟩)), (5, .string (strB (lineP [101, 110, 117, 109, 115] im.1 ++ ((im.2.take k).map rtT).flatten))), (6, .int .i64 k)])
      (fun _ => [Blk b1 (.cells [.slice ea im.1.length ec, .slice ra im.2.length rc].toArray 25 (0, 0))])
      (fun k => k ≤ im.2.length ∧ (lineP [101, 110, 117, 109, 115] im.1 ++ ((im.2.take k).map rtT).flatten).length ≤ 1000 + k * 5000000) (fun k => im.2.length - k) 0 ⟨Nat.zero_le _, hCl⟩ (by (repeat (first | exact trivial | refine ⟨by rfl, ?_⟩)); done) (by repeat' (first | exact Cover.nil | exact Take.here | apply Cover.cons | apply Take.there)) ?_
    rintro k ⟨hk1, hk2⟩
    refine g_seq <| g_seq <| g_region ?_
    refine g_pure (p_move rfl) rfl ?_
    refine g_pure (p_fieldAddr rfl) rfl ?_
    refine g_pure (p_loadA) rfl ?_
    refine g_pure (p_len (by rfl) rfl) rfl ?_
    refine g_pure (p_lss rfl rfl) rfl ?_
    refine g_nil <| g_qt ?_
    refine g_ifd rfl (fun q => ?_) (fun q => ?_)
    · have hkl : k < im.2.length := by omega
      have hst := flat_step rtT im.2 hkl
      obtain ⟨b, off, cs, T, fz, r1, r2, r3⟩ := h.rs (by omega)
      obtain ⟨row, q1, q2, q3⟩ := r3 k hkl
      have hgd := g4 k hkl
      have htx := t2 im.2[k] (List.getElem_mem hkl)
      have hfin : lineP [101, 110, 117, 109, 115] im.1 ++ ((im.2.take (k + 1)).map rtT).flatten = (lineP [101, 110, 117, 109, 115] im.1 ++ ((im.2.take k).map rtT).flatten) ++ rtT im.2[k] := by rw [hst, List.append_assoc]
      clear hst
      generalize im.2[k] = x0 at q1 hgd hfin htx
      obtain ⟨ia, ic, oa', oc', na, nc, ca, cc, e0, hi, ho, hn, hc⟩ := q1
      subst e0
      have hil := hgd.il
      have hol := hgd.ol
      have hzl := hgd.zl
      have hcl := hgd.cl
      have htl : x0.1.length ≤ 40 := by
        have := hgd.tl
        unfold titleP at this
        simp only [Bool.and_eq_true, decide_eq_true_eq] at this
        exact this.2.1
      obtain ⟨bc, oc2, cs2, T2, fz2, hcr⟩ := RSl.row encIns_len hc
      generalize lineP [101, 110, 117, 109, 115] im.1 ++ ((im.2.take k).map rtT).flatten = d at hk2 hfin ⊢
      have i2 := lineP_len2 [105, 110] x0.2.1 htx.il
      have i3 := lineP_len2 [111, 117, 116] x0.2.2.1 htx.ol
      have i4 := lineP_len2 [114, 101, 103, 115] [x0.2.2.2.1] (fun x hx => by rw [List.mem_singleton.1 hx]; exact htx.rl)
      have i5 := lineP_len2 [105, 110, 105, 116] x0.2.2.2.2.1 htx.zl
      simp only [List.length_cons, List.length_nil] at i2 i3 i4 i5
      have hR0 : rtT x0 = (((((([114, 111, 117, 116, 105, 110, 101, 32] ++ x0.1) ++ [10]) ++ lineP [105, 110] x0.2.1) ++ lineP [111, 117, 116] x0.2.2.1) ++ lineP [114, 101, 103, 115] [x0.2.2.2.1]) ++ lineP [105, 110, 105, 116] x0.2.2.2.2.1) ++ (x0.2.2.2.2.2.map insT).flatten ++ [101, 110, 100, 10] := by simp [rtT, lineP]
      generalize hL2 : lineP [105, 110] x0.2.1 = L2 at i2 hR0
      generalize hL3 : lineP [111, 117, 116] x0.2.2.1 = L3 at i3 hR0
      generalize hL4 : lineP [114, 101, 103, 115] [x0.2.2.2.1] = L4 at i4 hR0
      generalize hL5 : lineP [105, 110, 105, 116] x0.2.2.2.2.1 = L5 at i5 hR0
      refine g_skip <| g_qt <| g_seq <| g_block <| g_seq <| g_region ?_
      refine g_pure (p_fieldAddr rfl) rfl ?_
      refine g_pure (p_loadA) rfl ?_
      refine g_pure (p_move rfl) rfl ?_
      refine g_pure (p_indexAddr rfl rfl (by omega) (fun _ => r1)) rfl ?_
      refine g_pure (p_loadN (by rfl) rfl (Has.ro r2) (by rw [Int.toNat_natCast]; exact q2)) rfl ?_
      refine g_eff (e_alloc (by rfl)) rfl (fun _ _ => ?_)
      rintro ⟨b7, rfl, rfl⟩
      first | refine g_eff0 (e_storeO rfl rfl (by rfl) (by rfl) (by rfl) (by repeat' (first | exact Take.here | apply Take.there)) (by rfl)) (fun _ _ => ?_) | refine g_eff0 (e_storeN rfl rfl (by rfl) (by rfl) (by rfl) (by repeat' (first | exact Take.here | apply Take.there)) (by simp)) (fun _ _ => ?_)
      rintro rfl
      refine g_nil <| g_qt <| g_seq ?_
      have cI : ∀ {ρ' : Nat → Obj → Prop}, (∀ b o, ρ b o → ρ' b o) → Con Tryz.prog ρ' 45 #[.string (strB [105, 110]), .slice ia x0.2.1.length ic] [] (fun v H => v = .string (strB L2) ∧ H = []) := fun hρ => by have := rline_ok [105, 110] ia ic x0.2.1 (hi.mono hρ) htx.il (by simp; omega); rw [hL2] at this; exact this
      have cO : ∀ {ρ' : Nat → Obj → Prop}, (∀ b o, ρ b o → ρ' b o) → Con Tryz.prog ρ' 45 #[.string (strB [111, 117, 116]), .slice oa' x0.2.2.1.length oc'] [] (fun v H => v = .string (strB L3) ∧ H = []) := fun hρ => by have := rline_ok [111, 117, 116] oa' oc' x0.2.2.1 (ho.mono hρ) htx.ol (by simp; omega); rw [hL3] at this; exact this
      have cG : ∀ {ρ' : Nat → Obj → Prop} (a : Option Addr) (c : Nat), RSl ρ' 1 a [x0.2.2.2.1].length ([x0.2.2.2.1].map encI) → Con Tryz.prog ρ' 45 #[.string (strB [114, 101, 103, 115]), .slice a 1 c] [] (fun v H => v = .string (strB L4) ∧ H = []) := fun a c hr => by have := rline_ok [114, 101, 103, 115] a c [x0.2.2.2.1] hr (fun x hx => by rw [List.mem_singleton.1 hx]; exact htx.rl) (by simp); rw [hL4] at this; exact this
      have cZ : ∀ {ρ' : Nat → Obj → Prop}, (∀ b o, ρ b o → ρ' b o) → Con Tryz.prog ρ' 45 #[.string (strB [105, 110, 105, 116]), .slice na x0.2.2.2.2.1.length nc] [] (fun v H => v = .string (strB L5) ∧ H = []) := fun hρ => by have := rline_ok [105, 110, 105, 116] na nc x0.2.2.2.2.1 (hn.mono hρ) htx.zl (by simp; omega); rw [hL5] at this; exact this
      refine g_join (fun b7 : Nat => [(1, .pointer (some ⟨b1, 0, none⟩)), (5, .string (strB (d ++ ((((((([114, 111, 117, 116, 105, 110, 101, 32] ++ x0.1) ++ [10]) ++ L2) ++ L3) ++ L4) ++ L5))))), (6, .int .i64 k), (7, .pointer (some ⟨b7, 0, none⟩))])
        (fun b7 => [Blk b7 (.cells [.string (strB x0.1), .slice ia x0.2.1.length ic, .slice oa' x0.2.2.1.length oc', .int .i64 x0.2.2.2.1, .slice na x0.2.2.2.2.1.length nc, .slice ca x0.2.2.2.2.2.length cc].toArray 45 (0, 0)), Blk b1 (.cells [.slice ea im.1.length ec, .slice ra im.2.length rc].toArray 25 (0, 0))]) (fun _ => True) ?_ ?_
      · refine m_begin0 (.fl 0 0 (.fl 1 0 (.fl 2 0 (.fl 3 1 (.fl 4 0 (.fl 5 0 (.fl 6 0 (.fl 7 1 (.fl 10 0 (.fl 11 1 (.fl 14 0 (.fl 15 1 (.fl 19 0 (.fl 20 1 (.or (.ef 8 (.fl 9 0 (.or (.ef 12 (.fl 13 0 (.ef 16 (.ef 17 (.fl 18 0 (.ef 21 (.fl 22 0 (.fl 23 0 .done)))))))) (.ef 16 (.ef 12 (.fl 13 0 (.ef 17 (.fl 18 0 (.ef 21 (.fl 22 0 (.fl 23 0 .done))))))))))) (.ef 16 (.ef 8 (.fl 9 0 (.ef 12 (.fl 13 0 (.ef 17 (.fl 18 0 (.ef 21 (.fl 22 0 (.fl 23 0 .done))))))))))))))))))))))))) (by kernel_rfl) (by kernel_rfl) ?_
        refine m_float0 rfl (fun _ _ => p_move rfl) rfl ?_
        refine m_float0 rfl (fun _ _ => p_addB (a := d) (b := [114, 111, 117, 116, 105, 110, 101, 32]) (by rfl) rfl rfl (by simp; omega)) rfl ?_
        refine m_float0 rfl (fun _ _ => p_fieldAddr rfl) rfl ?_
        refine m_float rfl (p_loadA) rfl ?_
        refine m_float0 rfl (fun _ _ => p_addB (a := d ++ [114, 111, 117, 116, 105, 110, 101, 32]) (b := x0.1) (by rfl) rfl rfl (by simp; omega)) rfl ?_
        refine m_float0 rfl (fun _ _ => p_addB (a := d ++ [114, 111, 117, 116, 105, 110, 101, 32] ++ x0.1) (b := [10]) (by rfl) rfl rfl (by simp; omega)) rfl ?_
        refine m_float0 rfl (fun _ _ => p_fieldAddr rfl) rfl ?_
        refine m_float rfl (p_loadA) rfl ?_
        refine m_float0 rfl (fun _ _ => p_fieldAddr rfl) rfl ?_
        refine m_float rfl (p_loadA) rfl ?_
        refine m_float0 rfl (fun _ _ => p_fieldAddr rfl) rfl ?_
        refine m_float rfl (p_loadA) rfl ?_
        refine m_float0 rfl (fun _ _ => p_fieldAddr rfl) rfl ?_
        refine m_float rfl (p_loadA) rfl ?_
        refine m_or ?_ ?_
        · refine m_call (Hin := []) (Hr := ?hr3) (R := ?rr3) rfl wantedN rfl rfl rfl ?hin3 ?hc3 ?hk3
          case hin3 => repeat' (first | exact Cover.nil | exact Take.here | apply Cover.cons | apply Take.there)
          case hc3 => intro ρ' hρ hR; exact cI hρ
          rintro _ _ ⟨rfl, rfl⟩
          refine ⟨.some (by repeat' (first | exact Cover.nil | exact Take.here | apply Cover.cons | apply Take.there)), ?_⟩
          refine m_float0 rfl (fun _ _ => p_addB (a := d ++ [114, 111, 117, 116, 105, 110, 101, 32] ++ x0.1 ++ [10]) (b := L2) (by rfl) rfl rfl (by simp; omega)) rfl ?_
          refine m_or ?_ ?_
          · refine m_call (Hin := []) (Hr := ?hr4) (R := ?rr4) rfl wantedN rfl rfl rfl ?hin4 ?hc4 ?hk4
            case hin4 => repeat' (first | exact Cover.nil | exact Take.here | apply Cover.cons | apply Take.there)
            case hc4 => intro ρ' hρ hR; exact cO hρ
            rintro _ _ ⟨rfl, rfl⟩
            refine ⟨.some (by repeat' (first | exact Cover.nil | exact Take.here | apply Cover.cons | apply Take.there)), ?_⟩
            refine m_float0 rfl (fun _ _ => p_addB (a := d ++ [114, 111, 117, 116, 105, 110, 101, 32] ++ x0.1 ++ [10] ++ L2) (b := L3) (by rfl) rfl rfl (by simp; omega)) rfl ?_
            refine m_eff rfl (e_bs (xs := [.tmp 47]) rfl rfl rfl (by rfl) (by rfl) rfl (by rfl)) rfl (fun _ _ => ?_)
            rintro ⟨b48, rfl, rfl⟩
            refine ⟨.some (by repeat' (first | exact Cover.nil | exact Take.here | apply Cover.cons | apply Take.there)), ?_⟩
            refine m_call (Hin := []) (Hr := ?hr5) (R := ?rr5) rfl wantedN rfl rfl rfl ?hin5 ?hc5 ?hk5
            case hin5 => repeat' (first | exact Cover.nil | exact Take.here | apply Cover.cons | apply Take.there)
            case hc5 => intro ρ' hρ hR; exact cG (some ⟨b48, 0, none⟩) 1 (RSl.of_blk (T := 3) (cs := [.int .i64 x0.2.2.2.1]) (k := 1) (size := 1) (Take.ro (A := Blk b48 (.cells [.int .i64 x0.2.2.2.1].toArray 3 (0, 0))) (by repeat' (first | exact Take.here | apply Take.there)) hR).blk (Nat.le_refl 1))
            rintro _ _ ⟨rfl, rfl⟩
            refine ⟨.some (by repeat' (first | exact Cover.nil | exact Take.here | apply Cover.cons | apply Take.there)), ?_⟩
            refine m_float0 rfl (fun _ _ => p_addB (a := d ++ [114, 111, 117, 116, 105, 110, 101, 32] ++ x0.1 ++ [10] ++ L2 ++ L3) (b := L4) (by rfl) rfl rfl (by simp; omega)) rfl ?_
            refine m_call (Hin := []) (Hr := ?hr6) (R := ?rr6) rfl wantedN rfl rfl rfl ?hin6 ?hc6 ?hk6
            case hin6 => repeat' (first | exact Cover.nil | exact Take.here | apply Cover.cons | apply Take.there)
            case hc6 => intro ρ' hρ hR; exact cZ hρ
            rintro _ _ ⟨rfl, rfl⟩
            refine ⟨.some (by repeat' (first | exact Cover.nil | exact Take.here | apply Cover.cons | apply Take.there)), ?_⟩
            refine m_float0 rfl (fun _ _ => p_addB (a := d ++ [114, 111, 117, 116, 105, 110, 101, 32] ++ x0.1 ++ [10] ++ L2 ++ L3 ++ L4) (b := L5) (by rfl) rfl rfl (by simp; omega)) rfl ?_
            refine m_float0 rfl (fun _ _ => p_assign rfl) rfl ?_
            refine m_nil ?_
            refine g_qn ?_
            rw [show d ++ [114, 111, 117, 116, 105, 110, 101, 32] ++ x0.1 ++ [10] ++ L2 ++ L3 ++ L4 ++ L5 = d ++ ((((((([114, 111, 117, 116, 105, 110, 101, 32] ++ x0.1) ++ [10]) ++ L2) ++ L3) ++ L4) ++ L5)) by simp]
            exact g_joinedA b7 trivial
          refine m_eff rfl (e_bs (xs := [.tmp 47]) rfl rfl rfl (by rfl) (by rfl) rfl (by rfl)) rfl (fun _ _ => ?_)
          rintro ⟨b48, rfl, rfl⟩
          refine ⟨.some (by repeat' (first | exact Cover.nil | exact Take.here | apply Cover.cons | apply Take.there)), ?_⟩
          refine m_call (Hin := []) (Hr := ?hr7) (R := ?rr7) rfl wantedN rfl rfl rfl ?hin7 ?hc7 ?hk7
          case hin7 => repeat' (first | exact Cover.nil | exact Take.here | apply Cover.cons | apply Take.there)
          case hc7 => intro ρ' hρ hR; exact cO hρ
          rintro _ _ ⟨rfl, rfl⟩
          refine ⟨.some (by repeat' (first | exact Cover.nil | exact Take.here | apply Cover.cons | apply Take.there)), ?_⟩
          refine m_float0 rfl (fun _ _ => p_addB (a := d ++ [114, 111, 117, 116, 105, 110, 101, 32] ++ x0.1 ++ [10] ++ L2) (b := L3) (by rfl) rfl rfl (by simp; omega)) rfl ?_
          refine m_call (Hin := []) (Hr := ?hr8) (R := ?rr8) rfl wantedN rfl rfl rfl ?hin8 ?hc8 ?hk8
          case hin8 => repeat' (first | exact Cover.nil | exact Take.here | apply Cover.cons | apply Take.there)
          case hc8 => intro ρ' hρ hR; exact cG (some ⟨b48, 0, none⟩) 1 (RSl.of_blk (T := 3) (cs := [.int .i64 x0.2.2.2.1]) (k := 1) (size := 1) (Take.ro (A := Blk b48 (.cells [.int .i64 x0.2.2.2.1].toArray 3 (0, 0))) (by repeat' (first | exact Take.here | apply Take.there)) hR).blk (Nat.le_refl 1))
          rintro _ _ ⟨rfl, rfl⟩
          refine ⟨.some (by repeat' (first | exact Cover.nil | exact Take.here | apply Cover.cons | apply Take.there)), ?_⟩
          refine m_float0 rfl (fun _ _ => p_addB (a := d ++ [114, 111, 117, 116, 105, 110, 101, 32] ++ x0.1 ++ [10] ++ L2 ++ L3) (b := L4) (by rfl) rfl rfl (by simp; omega)) rfl ?_
          refine m_call (Hin := []) (Hr := ?hr9) (R := ?rr9) rfl wantedN rfl rfl rfl ?hin9 ?hc9 ?hk9
          case hin9 => repeat' (first | exact Cover.nil | exact Take.here | apply Cover.cons | apply Take.there)
          case hc9 => intro ρ' hρ hR; exact cZ hρ
          rintro _ _ ⟨rfl, rfl⟩
          refine ⟨.some (by repeat' (first | exact Cover.nil | exact Take.here | apply Cover.cons | apply Take.there)), ?_⟩
          refine m_float0 rfl (fun _ _ => p_addB (a := d ++ [114, 111, 117, 116, 105, 110, 101, 32] ++ x0.1 ++ [10] ++ L2 ++ L3 ++ L4) (b := L5) (by rfl) rfl rfl (by simp; omega)) rfl ?_
          refine m_float0 rfl (fun _ _ => p_assign rfl) rfl ?_
          refine m_nil ?_
          refine g_qn ?_
          rw [show d ++ [114, 111, 117, 116, 105, 110, 101, 32] ++ x0.1 ++ [10] ++ L2 ++ L3 ++ L4 ++ L5 = d ++ ((((((([114, 111, 117, 116, 105, 110, 101, 32] ++ x0.1) ++ [10]) ++ L2) ++ L3) ++ L4) ++ L5)) by simp]
          exact g_joinedA b7 trivial
        refine m_eff rfl (e_bs (xs := [.tmp 47]) rfl rfl rfl (by rfl) (by rfl) rfl (by rfl)) rfl (fun _ _ => ?_)
        rintro ⟨b48, rfl, rfl⟩
        refine ⟨.some (by repeat' (first | exact Cover.nil | exact Take.here | apply Cover.cons | apply Take.there)), ?_⟩
        refine m_call (Hin := []) (Hr := ?hr10) (R := ?rr10) rfl wantedN rfl rfl rfl ?hin10 ?hc10 ?hk10
        case hin10 => repeat' (first | exact Cover.nil | exact Take.here | apply Cover.cons | apply Take.there)
        case hc10 => intro ρ' hρ hR; exact cI hρ
        rintro _ _ ⟨rfl, rfl⟩
        refine ⟨.some (by repeat' (first | exact Cover.nil | exact Take.here | apply Cover.cons | apply Take.there)), ?_⟩
        refine m_float0 rfl (fun _ _ => p_addB (a := d ++ [114, 111, 117, 116, 105, 110, 101, 32] ++ x0.1 ++ [10]) (b := L2) (by rfl) rfl rfl (by simp; omega)) rfl ?_
        refine m_call (Hin := []) (Hr := ?hr11) (R := ?rr11) rfl wantedN rfl rfl rfl ?hin11 ?hc11 ?hk11
        case hin11 => repeat' (first | exact Cover.nil | exact Take.here | apply Cover.cons | apply Take.there)
        case hc11 => intro ρ' hρ hR; exact cO hρ
        rintro _ _ ⟨rfl, rfl⟩
        refine ⟨.some (by repeat' (first | exact Cover.nil | exact Take.here | apply Cover.cons | apply Take.there)), ?_⟩
        refine m_float0 rfl (fun _ _ => p_addB (a := d ++ [114, 111, 117, 116, 105, 110, 101, 32] ++ x0.1 ++ [10] ++ L2) (b := L3) (by rfl) rfl rfl (by simp; omega)) rfl ?_
        refine m_call (Hin := []) (Hr := ?hr12) (R := ?rr12) rfl wantedN rfl rfl rfl ?hin12 ?hc12 ?hk12
        case hin12 => repeat' (first | exact Cover.nil | exact Take.here | apply Cover.cons | apply Take.there)
        case hc12 => intro ρ' hρ hR; exact cG (some ⟨b48, 0, none⟩) 1 (RSl.of_blk (T := 3) (cs := [.int .i64 x0.2.2.2.1]) (k := 1) (size := 1) (Take.ro (A := Blk b48 (.cells [.int .i64 x0.2.2.2.1].toArray 3 (0, 0))) (by repeat' (first | exact Take.here | apply Take.there)) hR).blk (Nat.le_refl 1))
        rintro _ _ ⟨rfl, rfl⟩
        refine ⟨.some (by repeat' (first | exact Cover.nil | exact Take.here | apply Cover.cons | apply Take.there)), ?_⟩
        refine m_float0 rfl (fun _ _ => p_addB (a := d ++ [114, 111, 117, 116, 105, 110, 101, 32] ++ x0.1 ++ [10] ++ L2 ++ L3) (b := L4) (by rfl) rfl rfl (by simp; omega)) rfl ?_
        refine m_call (Hin := []) (Hr := ?hr13) (R := ?rr13) rfl wantedN rfl rfl rfl ?hin13 ?hc13 ?hk13
        case hin13 => repeat' (first | exact Cover.nil | exact Take.here | apply Cover.cons | apply Take.there)
        case hc13 => intro ρ' hρ hR; exact cZ hρ
        rintro _ _ ⟨rfl, rfl⟩
        refine ⟨.some (by repeat' (first | exact Cover.nil | exact Take.here | apply Cover.cons | apply Take.there)), ?_⟩
        refine m_float0 rfl (fun _ _ => p_addB (a := d ++ [114, 111, 117, 116, 105, 110, 101, 32] ++ x0.1 ++ [10] ++ L2 ++ L3 ++ L4) (b := L5) (by rfl) rfl rfl (by simp; omega)) rfl ?_
        refine m_float0 rfl (fun _ _ => p_assign rfl) rfl ?_
        refine m_nil ?_
        refine g_qn ?_
        rw [show d ++ [114, 111, 117, 116, 105, 110, 101, 32] ++ x0.1 ++ [10] ++ L2 ++ L3 ++ L4 ++ L5 = d ++ ((((((([114, 111, 117, 116, 105, 110, 101, 32] ++ x0.1) ++ [10]) ++ L2) ++ L3) ++ L4) ++ L5)) by simp]
        exact g_joinedA b7 trivial
      rintro b7 -
      refine g_qt ?_
      have hml : (d ++ ((((((([114, 111, 117, 116, 105, 110, 101, 32] ++ x0.1) ++ [10]) ++ L2) ++ L3) ++ L4) ++ L5))).length ≤ d.length + 250000 := by simp; omega
      have hfin2 : d ++ rtT x0 = d ++ ((((((([114, 111, 117, 116, 105, 110, 101, 32] ++ x0.1) ++ [10]) ++ L2) ++ L3) ++ L4) ++ L5)) ++ (x0.2.2.2.2.2.map insT).flatten ++ [101, 110, 100, 10] := by rw [hR0]; simp
      generalize d ++ ((((((([114, 111, 117, 116, 105, 110, 101, 32] ++ x0.1) ++ [10]) ++ L2) ++ L3) ++ L4) ++ L5)) = e at hml hfin2 ⊢
      refine g_seq <| g_seq <| g_region ?_
      refine g_pure (p_assign rfl) rfl ?_
      refine g_nil <| g_qt <| g_block ?_
      have he0 : e = e ++ ((x0.2.2.2.2.2.take 0).map insT).flatten := by simp
      have hel0 : (e ++ ((x0.2.2.2.2.2.take 0).map insT).flatten).length ≤ e.length + 100 * 0 := by rw [← he0]; omega
      rw [show strB e = strB (e ++ ((x0.2.2.2.2.2.take 0).map insT).flatten) by rw [← he0]]
      refine g_loop (fun j : Nat => [(1, .pointer (some ⟨b1, 0, none⟩)), (5, .string (strB (e ++ ((x0.2.2.2.2.2.take j).map insT).flatten))), (6, .int .i64 k), (7, .pointer (some ⟨b7, 0, none⟩)), (8, .int .i64 j)])
        (fun _ => [Blk b7 (.cells [.string (strB x0.1), .slice ia x0.2.1.length ic, .slice oa' x0.2.2.1.length oc', .int .i64 x0.2.2.2.1, .slice na x0.2.2.2.2.1.length nc, .slice ca x0.2.2.2.2.2.length cc].toArray 45 (0, 0)), Blk b1 (.cells [.slice ea im.1.length ec, .slice ra im.2.length rc].toArray 25 (0, 0))])
        (fun j => j ≤ x0.2.2.2.2.2.length ∧ (e ++ ((x0.2.2.2.2.2.take j).map insT).flatten).length ≤ e.length + 100 * j) (fun j => x0.2.2.2.2.2.length - j) 0 ⟨Nat.zero_le _, hel0⟩ (by (repeat (first | exact trivial | refine ⟨by rfl, ?_⟩)); done) (by repeat' (first | exact Cover.nil | exact Take.here | apply Cover.cons | apply Take.there)) ?_
      rintro j ⟨hj1, hj2⟩
      refine g_seq <| g_seq <| g_region ?_
      refine g_pure (p_move rfl) rfl ?_
      refine g_pure (p_fieldAddr rfl) rfl ?_
      refine g_pure (p_loadA) rfl ?_
      refine g_pure (p_len (by rfl) rfl) rfl ?_
      refine g_pure (p_lss rfl rfl) rfl ?_
      refine g_nil <| g_qt ?_
      refine g_ifd rfl (fun s => ?_) (fun s => ?_)
      · have hjl : j < x0.2.2.2.2.2.length := by omega
        obtain ⟨c1, c2, c3⟩ := hcr (by omega)
        have c4 := (c3 j hjl).1 (by decide)
        have c5 := (c3 j hjl).2 0 _ (by rfl)
        have hst := flat_step insT x0.2.2.2.2.2 hjl
        obtain ⟨⟨len, at', hf⟩, hui⟩ := htx.cl x0.2.2.2.2.2[j] (List.getElem_mem hjl)
        have hst2 : e ++ ((x0.2.2.2.2.2.take (j + 1)).map insT).flatten = (e ++ ((x0.2.2.2.2.2.take j).map insT).flatten) ++ insT x0.2.2.2.2.2[j] := by rw [hst, List.append_assoc]
        clear hst
        generalize x0.2.2.2.2.2[j] = ii at c4 c5 hf hui hst2
        have hkn := form_known hf
        have hfu := fields_used hkn
        have hfl := fieldsR_len ii.1
        have hul : (usedP ii).length ≤ 4 := by rw [← hfu, List.length_map]; exact hfl
        have hil2 := lineP_len2 (opRow ii.1).1 (usedP ii) hui
        have hwl := word_len ii.1
        have hinl : (insT ii).length ≤ 60 := by unfold insT; omega
        generalize e ++ ((x0.2.2.2.2.2.take j).map insT).flatten = f at hj2 hst2 ⊢
        generalize hF : fieldsR ii.1 = F at hfu hfl
        have hFs : (strB F).size = F.length := rfl
        refine g_skip <| g_qt <| g_seq <| g_block <| g_seq <| g_region ?_
        refine g_pure (p_assign rfl) rfl ?_
        refine g_nil <| g_qt <| g_seq <| g_region ?_
        refine g_pure (p_fieldAddr rfl) rfl ?_
        refine g_pure (p_loadA) rfl ?_
        refine g_pure (p_move rfl) rfl ?_
        refine g_pure (p_indexAddr rfl rfl (by omega) (fun _ => c1)) rfl ?_
        refine g_pure (p_fieldAddr rfl) rfl ?_
        refine g_pure (p_load (by rfl) rfl (Has.ro c2) (by rw [Int.toNat_natCast]; exact c5)) rfl ?_
        refine g_call (Hin := []) (Hr := ?hr14) (R := ?rr14) rfl rfl rfl ?hin14 ?hc14 ?hk14
        case hin14 => repeat' (first | exact Cover.nil | exact Take.here | apply Cover.cons | apply Take.there)
        case hc14 => intro ρ' hρ hR; exact (by have := rfields_ok (ρ := ρ') ii.1; rw [hF] at this; exact this)
        rintro _ _ ⟨rfl, rfl⟩
        refine g_pure (p_assign rfl) rfl ?_
        refine g_nil <| g_qt <| g_seq <| g_seq <| g_region ?_
        refine g_pure (p_assign rfl) rfl ?_
        refine g_nil <| g_qt <| g_block ?_
        refine g_ownnil (e := 3) (size := 1) ?_
        refine g_loop (fun q : Nat × Option Addr × Nat => [(1, .pointer (some ⟨b1, 0, none⟩)), (5, .string (strB f)), (6, .int .i64 k), (7, .pointer (some ⟨b7, 0, none⟩)), (8, .int .i64 j), (9, .slice q.2.1 ((F.take q.1).map (fieldI ii)).length q.2.2), (10, .string (strB F)), (11, .int .i64 q.1)])
          (fun q => [OwnSl 3 1 q.2.1 ((F.take q.1).map (fieldI ii)).length q.2.2 (((F.take q.1).map (fieldI ii)).map encI), Blk b7 (.cells [.string (strB x0.1), .slice ia x0.2.1.length ic, .slice oa' x0.2.2.1.length oc', .int .i64 x0.2.2.2.1, .slice na x0.2.2.2.2.1.length nc, .slice ca x0.2.2.2.2.2.length cc].toArray 45 (0, 0)), Blk b1 (.cells [.slice ea im.1.length ec, .slice ra im.2.length rc].toArray 25 (0, 0))])
          (fun q => q.1 ≤ F.length) (fun q => F.length - q.1) (0, none, 0) (Nat.zero_le _) (by (repeat (first | exact trivial | refine ⟨by rfl, ?_⟩)); done) (by repeat' (first | exact Cover.nil | exact Take.here | apply Cover.cons | apply Take.there)) ?_
        rintro ⟨n, la, lc⟩ hn1
        dsimp only at hn1 ⊢
        have hml2 : ((F.take n).map (fieldI ii)).length ≤ 4 := by rw [List.length_map, List.length_take]; omega
        refine g_seq <| g_seq <| g_region ?_
        refine g_pure (p_move rfl) rfl ?_
        refine g_pure (p_move rfl) rfl ?_
        refine g_pure (p_lens (by rfl) rfl) rfl ?_
        refine g_pure (p_lss rfl rfl) rfl ?_
        refine g_nil <| g_qt ?_
        refine g_ifd rfl (fun t => ?_) (fun t => ?_)
        · have hnl : n < F.length := by omega
          have hms := map_step (fieldI ii) F hnl
          have hch := strB_at F hnl
          generalize F[n] = ch at hms hch
          refine g_skip <| g_qt <| g_seq <| g_block ?_
          refine m_begin (.fl 0 0 (.fl 1 0 (.fl 2 1 (.fl 3 0 (.fl 4 0 (.fl 5 1 (.fl 6 0 (.fl 7 0 (.fl 8 0 (.ef 9 (.ef 10 (.ef 11 (.fl 12 0 .done))))))))))))) [OwnSl 3 1 la ((F.take n).map (fieldI ii)).length lc (((F.take n).map (fieldI ii)).map encI), Blk b7 (.cells [.string (strB x0.1), .slice ia x0.2.1.length ic, .slice oa' x0.2.2.1.length oc', .int .i64 x0.2.2.2.1, .slice na x0.2.2.2.2.1.length nc, .slice ca x0.2.2.2.2.2.length cc].toArray 45 (0, 0)), Blk b1 (.cells [.slice ea im.1.length ec, .slice ra im.2.length rc].toArray 25 (0, 0))] (by kernel_rfl) (by kernel_rfl) (by repeat' (first | exact Cover.nil | exact Take.here | apply Cover.cons | apply Take.there)) ?_
          refine m_float0 rfl (fun _ _ => p_move rfl) rfl ?_
          refine m_float0 rfl (fun _ _ => p_fieldAddr rfl) rfl ?_
          refine m_float rfl (p_loadA) rfl ?_
          refine m_float0 rfl (fun _ _ => p_move rfl) rfl ?_
          refine m_float0 rfl (fun _ _ => p_indexAddr rfl rfl (by omega) (fun _ => c1)) rfl ?_
          refine m_float rfl (p_loadN (by rfl) rfl (Has.ro c2) (by rw [Int.toNat_natCast]; exact c4)) rfl ?_
          refine m_float0 rfl (fun _ _ => p_move rfl) rfl ?_
          refine m_float0 rfl (fun _ _ => p_move rfl) rfl ?_
          refine m_float0 rfl (fun _ _ => p_indexs (by rfl) rfl rfl (by omega) hch) rfl ?_
          refine m_call (Hin := []) (Hr := ?hr15) (R := ?rr15) rfl wantedN rfl rfl rfl ?hin15 ?hc15 ?hk15
          case hin15 => repeat' (first | exact Cover.nil | exact Take.here | apply Cover.cons | apply Take.there)
          case hc15 => intro ρ' hρ hR; exact rfield_ok ii ch
          rintro _ _ ⟨rfl, rfl⟩
          refine ⟨.none (by kernel_rfl), ?_⟩
          refine m_eff rfl (e_bs (xs := [.tmp 84]) rfl rfl rfl (by rfl) (by rfl) rfl (by rfl)) rfl (fun _ _ => ?_)
          rintro ⟨b85, rfl, rfl⟩
          refine ⟨.none (by kernel_rfl), ?_⟩
          refine m_eff rfl (e_appendO (by rfl) (by rfl) rfl rfl (by first | (apply Has.own; (repeat' (first | exact Take.here | apply Take.there)); done) | exact Has.ro (by assumption)) (by rfl) (by rfl) (by repeat' (first | exact Take.here | apply Take.there)) (by omega) (by first | omega | (dsimp only; omega) | (simp <;> omega)) (by omega)) rfl (fun _ _ => ?_)
          rintro ⟨a86, c86, rfl, rfl⟩
          refine ⟨.none (by kernel_rfl), ?_⟩
          refine m_float0 rfl (fun _ _ => p_assign rfl) rfl ?_
          refine m_nil ?_
          refine g_qb <| g_qt <| g_region ?_
          refine g_pure (p_move rfl) rfl ?_
          first | refine g_pure (p_addi rfl rfl (by omega)) rfl ?_ | refine g_pure (p_add rfl rfl) rfl ?_
          refine g_pure (p_assign rfl) rfl ?_
          refine g_nil <| g_qn ?_
          rw [show ((F.take n).map (fieldI ii)).map encI ++ [Value.int IntKind.i64 (fieldI ii ch)] = ((F.take (n + 1)).map (fieldI ii)).map encI by rw [hms, List.map_append]; rfl, show ((F.take n).map (fieldI ii)).length + 1 = ((F.take (n + 1)).map (fieldI ii)).length by rw [hms, List.length_append]; rfl]
          exact g_nextA (n + 1, a86, c86) (by dsimp only; omega) (by dsimp only; omega)
        · have hFt : (F.take n).map (fieldI ii) = usedP ii := by rw [List.take_of_length_le (by omega)]; exact hfu
          rw [hFt]
          refine g_exit <| g_qt_exit <| g_qn_exit <| g_qb_exit <| g_qt <| g_region ?_
          refine g_pure (p_move rfl) rfl ?_
          refine g_pure (p_fieldAddr rfl) rfl ?_
          refine g_pure (p_loadA) rfl ?_
          refine g_pure (p_move rfl) rfl ?_
          refine g_pure (p_indexAddr rfl rfl (by omega) (fun _ => c1)) rfl ?_
          refine g_pure (p_fieldAddr rfl) rfl ?_
          refine g_pure (p_load (by rfl) rfl (Has.ro c2) (by rw [Int.toNat_natCast]; exact c5)) rfl ?_
          refine g_call (Hin := []) (Hr := ?hr16) (R := ?rr16) rfl rfl rfl ?hin16 ?hc16 ?hk16
          case hin16 => repeat' (first | exact Cover.nil | exact Take.here | apply Cover.cons | apply Take.there)
          case hc16 => intro ρ' hρ hR; exact rword_ok ii.1 hkn
          rintro _ _ ⟨rfl, rfl⟩
          refine g_pure (p_move rfl) rfl ?_
          refine g_call (Hin := []) (Hr := ?hr17) (R := ?rr17) rfl rfl rfl ?hin17 ?hc17 ?hk17
          case hin17 => repeat' (first | exact Cover.nil | exact Take.here | apply Cover.cons | apply Take.there)
          case hc17 => intro ρ' hρ hR; exact (by have := rline_ok (ρ := ρ') (opRow ii.1).1 la lc (usedP ii) (RSl.of_own (Take.ro (A := OwnSl 3 1 la (usedP ii).length lc ((usedP ii).map encI)) (by repeat' (first | exact Take.here | apply Take.there)) hR)) hui (by omega); rw [show lineP (opRow ii.1).1 (usedP ii) = insT ii from rfl] at this; exact this)
          rintro _ _ ⟨rfl, rfl⟩
          refine g_pure (p_addB (a := f) (b := insT ii) (by rfl) rfl rfl (by omega)) rfl ?_
          refine g_pure (p_assign rfl) rfl ?_
          refine g_nil <| g_qb <| g_qt <| g_region ?_
          refine g_pure (p_move rfl) rfl ?_
          first | refine g_pure (p_addi rfl rfl (by omega)) rfl ?_ | refine g_pure (p_add rfl rfl) rfl ?_
          refine g_pure (p_assign rfl) rfl ?_
          refine g_nil <| g_qn ?_
          rw [← hst2]
          exact g_nextA (j + 1) ⟨hjl, by rw [hst2, List.length_append]; omega⟩ (by omega)
      · rw [List.take_of_length_le (by omega)] at hj2 ⊢
        have hjc : j ≤ 32768 := by omega
        refine g_exit <| g_qt_exit <| g_qn_exit <| g_qb_exit <| g_qt <| g_region ?_
        refine g_pure (p_move rfl) rfl ?_
        refine g_pure (p_addB (a := e ++ (x0.2.2.2.2.2.map insT).flatten) (b := [101, 110, 100, 10]) (by rfl) rfl rfl (by simp only [List.length_cons, List.length_nil]; omega)) rfl ?_
        refine g_pure (p_assign rfl) rfl ?_
        refine g_nil <| g_qb <| g_qt <| g_region ?_
        refine g_pure (p_move rfl) rfl ?_
        first | refine g_pure (p_addi rfl rfl (by omega)) rfl ?_ | refine g_pure (p_add rfl rfl) rfl ?_
        refine g_pure (p_assign rfl) rfl ?_
        refine g_nil <| g_qn ?_
        rw [← hfin2, ← hfin]
        exact g_nextA (k + 1) ⟨hkl, by rw [hfin, hfin2, List.length_append]; simp only [List.length_cons, List.length_nil]; omega⟩ (by omega)
    · have hke : k = im.2.length := by omega
      subst hke
      rw [List.take_length]
      refine g_exit <| g_qt_exit <| g_qn_exit <| g_qb_exit <| g_qt <| g_seq <| g_region ?_
      refine g_pure (p_move rfl) rfl ?_
      refine g_pure (p_assign rfl) rfl ?_
      refine g_pure (p_assign rfl) rfl ?_
      refine g_nil <| g_qt <| g_ret ?_
      exact g_postA (rs := [.tmp 2, .tmp 3]) rfl (.tmp rfl (.tmp rfl .nil)) ⟨rfl, rfl⟩
end Go.Proofs.YtcnfcoojmbjdlaaGreatDoor
