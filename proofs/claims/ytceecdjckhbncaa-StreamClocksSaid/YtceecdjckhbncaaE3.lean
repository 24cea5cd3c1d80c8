/- Chapter 16: the document's words; reading a word. Conditions: none. -/
import Derived.Test.YtceecdjckhbncaaE2
namespace Go.Z.Val
set_option linter.unusedVariables false
set_option linter.unusedSimpArgs false
set_option linter.unusedSectionVars false
open Go Go.Z
theorem WordF_no {hd lp : List Bool} {a : List Ce} {t : Nat} (h : thereB (at0 a t) = false) : WordF hd lp a t = (0, 0) ∧ kF a (t + 1) = kF a t := by
  refine ⟨by unfold WordF; rw [if_neg (by rw [h]; simp)], kF_skip (by rw [joint1]; exact h)⟩
theorem WordF_u {hd lp : List Bool} {a : List Ce} {t : Nat} (h : thereB (at0 a t) = true) (h2 : ¬ checkW hd lp = 0) : WordF hd lp a t = (2, 0) := by
  unfold WordF wordC; rw [if_pos h, if_neg h2]
theorem WordF_1 {hd lp : List Bool} {a : List Ce} {t : Nat} (h : thereB (at0 a t) = true) (h2 : checkW hd lp = 0) (h3 : (decide (checkW hd lp = 0) && letterF hd lp (kF a t)) = true) : WordF hd lp a t = (1, 1) := by
  rw [decide_eq_true h2, Bool.true_and] at h3
  unfold WordF wordC; rw [if_pos h, if_pos h2, if_pos h3]
theorem WordF_0 {hd lp : List Bool} {a : List Ce} {t : Nat} (h : thereB (at0 a t) = true) (h2 : checkW hd lp = 0) (h3 : (decide (checkW hd lp = 0) && letterF hd lp (kF a t)) = false) : WordF hd lp a t = (1, 0) := by
  rw [decide_eq_true h2, Bool.true_and] at h3
  unfold WordF wordC; rw [if_pos h, if_pos h2, if_neg (by rw [h3]; simp)]
theorem kF_yes {a : List Ce} {t : Nat} (h : thereB (at0 a t) = true) : ((kF a (t + 1) : Nat) : Int) = (kF a t : Int) + 1 := by
  rw [kF_go (by rw [joint1]; exact h)]; omega
end Go.Z.Val
namespace Go.Proofs.Ytceecdjckhbncaa
open Go Go.Z Go.Z.Val

theorem dword_ok {ρ : Nat → Obj → Prop} {ha la : Option Addr} {hc lc : Nat} {hd lp : List Bool} (h : WdR ρ ha la hd lp) {a : List Ce} {aa : Option Addr} {ac : Nat} (h3 : RSl ρ 2 aa a.length (a.flatMap encC)) (hlen : a.length ≤ 900000) :
    Con Try.prog ρ 29 #[.agg #[.slice ha hd.length hc, .slice la lp.length lc], .slice aa a.length ac] [] (StrP (WordL hd lp a)) := by
  obtain ⟨_, bl, ol, kl, Tl, fl, hl⟩ := id h3
  refine con_intro Try.func29 Try.call29 rfl Try.ntmps29 rfl (L := [(0, _), (1, _)]) rfl fun w hh => ?_
  refine g_seq ?_
  refine g_region ?_
  refine g_eff (e_box rfl (by rfl)) rfl (fun _ _ => ?_)
  rintro ⟨b2, rfl, rfl⟩
  refine g_pure (p_assign rfl) rfl ?_
  refine g_nil ?_
  refine g_qt ?_
  refine g_seq ?_
  refine g_region ?_
  refine g_pure (p_assign rfl) rfl ?_
  refine g_nil ?_
  refine g_qt ?_
  refine g_seq ?_
  refine g_region ?_
  refine g_pure (p_assign rfl) rfl ?_
  refine g_nil ?_
  refine g_qt ?_
  refine g_seq ?_
  refine g_seq ?_
  refine g_region ?_
  refine g_pure (p_assign rfl) rfl ?_
  refine g_nil ?_
  refine g_qt ?_
  refine g_block ?_
  refine g_ownnil (e := 31) (size := 2) ?_
  refine g_loop (fun q : Nat × Option Addr × Nat => [(1, .slice aa a.length ac), (2, .pointer (some ⟨b2, 0, none⟩)), (5, .slice q.2.1 ((List.range q.1).map (WordF hd lp a)).length q.2.2), (6, .int .i64 (kF a q.1 : Nat)), (7, .int .i64 q.1)]) (fun q => [Blk b2 (.cells [.slice ha hd.length hc, .slice la lp.length lc].toArray 42 (0, 0)), OwnSl 31 2 q.2.1 ((List.range q.1).map (WordF hd lp a)).length q.2.2 (((List.range q.1).map (WordF hd lp a)).flatMap encC)]) (fun q => q.1 ≤ a.length) (fun q => a.length - q.1) (0, none, 0) (Nat.zero_le _) (by (repeat (first | exact trivial | refine ⟨by rfl, ?_⟩)); done) (by repeat' (first | exact Cover.nil | exact Take.here | apply Cover.cons | apply Take.there)) ?_
  rintro ⟨t, oa, oc⟩ ht
  dsimp only at ht ⊢
  have hil : ((List.range t).map (WordF hd lp a)).length = t := by simp
  have hkl := kF_le a t
  refine g_seq ?_
  refine g_seq ?_
  refine g_region ?_
  refine g_pure (p_move rfl) rfl ?_
  refine g_pure (p_move rfl) rfl ?_
  refine g_pure (p_len (by rfl) rfl) rfl ?_
  refine g_pure (p_lss rfl rfl) rfl ?_
  refine g_nil ?_
  refine g_qt ?_
  refine g_ifd rfl (fun q => ?_) (fun q => ?_)
  · have htl : t < a.length := by omega
    obtain ⟨l1, l2, l3⟩ := hl (by omega)
    obtain ⟨x0, -, -⟩ := cell_at l3 htl
    have x0' : sub kl (ol + (t : Int).toNat * 2) 2 = some (encC (at0 a t)) := by rw [at0_eq htl]; exact x0
    clear x0
    have hm : (List.range (t + 1)).map (WordF hd lp a) = (List.range t).map (WordF hd lp a) ++ [WordF hd lp a t] := by rw [List.range_succ, List.map_append]; rfl
    have hm1 : ((List.range t).map (WordF hd lp a)).length + 1 = ((List.range (t + 1)).map (WordF hd lp a)).length := by rw [hm]; simp
    have hm2 : ((List.range t).map (WordF hd lp a)).flatMap encC ++ encC (WordF hd lp a t) = ((List.range (t + 1)).map (WordF hd lp a)).flatMap encC := by rw [hm]; simp
    refine g_skip ?_
    refine g_qt ?_
    refine g_seq ?_
    refine g_block ?_
    refine g_seq ?_
    refine g_region ?_
    refine g_pure (p_build (by rfl) rfl (by rfl)) rfl ?_
    refine g_eff (e_alloc (by rfl)) rfl (fun _ _ => ?_)
    rintro ⟨b8, rfl, rfl⟩
    first | refine g_eff0 (e_storeO rfl rfl (by rfl) (by rfl) (by rfl) (by repeat' (first | exact Take.here | apply Take.there)) (by rfl)) (fun _ _ => ?_) | refine g_eff0 (e_storeN rfl rfl (by rfl) (by rfl) (by rfl) (by repeat' (first | exact Take.here | apply Take.there)) (by simp)) (fun _ _ => ?_)
    rintro rfl
    refine g_nil ?_
    refine g_qt ?_
    refine g_seq ?_
    refine g_seq ?_
    refine g_region ?_
    refine g_pure (p_move rfl) rfl ?_
    refine g_pure (p_move rfl) rfl ?_
    refine g_pure (p_indexAddr rfl rfl (by omega) (fun _ => l1)) rfl ?_
    refine g_pure (p_loadN (by rfl) rfl (Has.ro l2) x0') rfl ?_
    refine g_call (Hin := []) (Hr := ?hr1) (R := ?rr1) rfl rfl rfl ?hin1 ?hc1 ?hk1
    case hin1 => repeat' (first | exact Cover.nil | exact Take.here | apply Cover.cons | apply Take.there)
    case hc1 => intro ρ' hρ hR; exact dthere_ok (at0 a t)
    rintro _ _ ⟨rfl, rfl⟩
    refine g_nil ?_
    refine g_qt ?_
    refine g_join (fun s : Ce × Int => [(1, .slice aa a.length ac), (2, .pointer (some ⟨b2, 0, none⟩)), (5, .slice oa ((List.range t).map (WordF hd lp a)).length oc), (6, .int .i64 s.2), (7, .int .i64 t), (8, .pointer (some ⟨b8, 0, none⟩))]) (fun s => [Blk b8 (.cells (encC s.1).toArray 31 (0, 0)), Blk b2 (.cells [.slice ha hd.length hc, .slice la lp.length lc].toArray 42 (0, 0)), OwnSl 31 2 oa ((List.range t).map (WordF hd lp a)).length oc (((List.range t).map (WordF hd lp a)).flatMap encC)]) (fun s => s.1 = WordF hd lp a t ∧ s.2 = ((kF a (t + 1) : Nat) : Int)) ?_ ?_
    · refine g_if rfl (fun r => ?_) (fun r => ?_)
      · refine g_seq ?_
        refine g_region ?_
        refine g_pure (p_build (by rfl) rfl (by rfl)) rfl ?_
        first | refine g_eff0 (e_storeO rfl rfl (by rfl) (by rfl) (by rfl) (by repeat' (first | exact Take.here | apply Take.there)) (by rfl)) (fun _ _ => ?_) | refine g_eff0 (e_storeN rfl rfl (by rfl) (by rfl) (by rfl) (by repeat' (first | exact Take.here | apply Take.there)) (by simp)) (fun _ _ => ?_)
        rintro rfl
        refine g_nil ?_
        refine g_qt ?_
        refine g_seq ?_
        refine g_seq ?_
        refine g_region ?_
        first | refine g_pure (p_loadO (by rfl) rfl (by first | (apply Has.own; (repeat' (first | exact Take.here | apply Take.there)); done) | exact Has.ro (by assumption)) (by rfl)) rfl ?_ | refine g_pure (p_loadN (by rfl) rfl (by first | (apply Has.own; (repeat' (first | exact Take.here | apply Take.there)); done) | exact Has.ro (by assumption)) (by first | rfl | assumption)) rfl ?_
        refine g_call (Hin := []) (Hr := ?hr2) (R := ?rr2) rfl rfl rfl ?hin2 ?hc2 ?hk2
        case hin2 => repeat' (first | exact Cover.nil | exact Take.here | apply Cover.cons | apply Take.there)
        case hc2 => intro ρ' hρ hR; exact dwcheck_ok (h.mono hρ)
        rintro _ _ ⟨rfl, rfl⟩
        refine g_pure (p_eql rfl rfl) rfl ?_
        refine g_nil ?_
        refine g_qt ?_
        refine g_ifd rfl (fun g => ?_) (fun g => ?_)
        · refine g_seq ?_
          refine g_region ?_
          refine g_pure (p_build (by rfl) rfl (by rfl)) rfl ?_
          first | refine g_eff0 (e_storeO rfl rfl (by rfl) (by rfl) (by rfl) (by repeat' (first | exact Take.here | apply Take.there)) (by rfl)) (fun _ _ => ?_) | refine g_eff0 (e_storeN rfl rfl (by rfl) (by rfl) (by rfl) (by repeat' (first | exact Take.here | apply Take.there)) (by simp)) (fun _ _ => ?_)
          rintro rfl
          refine g_nil ?_
          refine g_qt ?_
          refine g_seq ?_
          refine g_region ?_
          first | refine g_pure (p_loadO (by rfl) rfl (by first | (apply Has.own; (repeat' (first | exact Take.here | apply Take.there)); done) | exact Has.ro (by assumption)) (by rfl)) rfl ?_ | refine g_pure (p_loadN (by rfl) rfl (by first | (apply Has.own; (repeat' (first | exact Take.here | apply Take.there)); done) | exact Has.ro (by assumption)) (by first | rfl | assumption)) rfl ?_
          refine g_pure (p_move rfl) rfl ?_
          refine g_call (Hin := []) (Hr := ?hr3) (R := ?rr3) rfl rfl rfl ?hin3 ?hc3 ?hk3
          case hin3 => repeat' (first | exact Cover.nil | exact Take.here | apply Cover.cons | apply Take.there)
          case hc3 => intro ρ' hρ hR; exact dwat_ok (h.mono hρ) (k := kF a t) (by omega)
          rintro _ _ ⟨rfl, rfl⟩
          refine g_nil ?_
          refine g_qt ?_
          refine g_if rfl (fun g2 => ?_) (fun g2 => ?_)
          · refine g_region ?_
            refine g_pure (p_fieldAddr rfl) rfl ?_
            first | refine g_eff0 (e_storeO rfl rfl (by rfl) (by rfl) (by rfl) (by repeat' (first | exact Take.here | apply Take.there)) (by rfl)) (fun _ _ => ?_) | refine g_eff0 (e_store1 (by rfl) rfl rfl rfl (by repeat' (first | exact Take.here | apply Take.there)) (by first | decide | (simp <;> omega) | omega)) (fun _ _ => ?_)
            rintro rfl
            refine g_nil ?_
            refine g_qt ?_
            refine g_region ?_
            refine g_pure (p_move rfl) rfl ?_
            first | refine g_pure (p_addi rfl rfl (by omega)) rfl ?_ | refine g_pure (p_add rfl rfl) rfl ?_
            refine g_pure (p_assign rfl) rfl ?_
            refine g_nil ?_
            refine g_qn ?_
            exact g_joined ((1, 1), (kF a t : Int) + 1) (by (repeat (first | exact trivial | refine ⟨by rfl, ?_⟩)); done) (by repeat' (first | exact Cover.nil | exact Take.here | apply Cover.cons | apply Take.there)) ⟨(WordF_1 r g g2).symm, (kF_yes r).symm⟩
          · refine g_skip ?_
            refine g_qt ?_
            refine g_region ?_
            refine g_pure (p_move rfl) rfl ?_
            first | refine g_pure (p_addi rfl rfl (by omega)) rfl ?_ | refine g_pure (p_add rfl rfl) rfl ?_
            refine g_pure (p_assign rfl) rfl ?_
            refine g_nil ?_
            refine g_qn ?_
            exact g_joined ((1, 0), (kF a t : Int) + 1) (by (repeat (first | exact trivial | refine ⟨by rfl, ?_⟩)); done) (by repeat' (first | exact Cover.nil | exact Take.here | apply Cover.cons | apply Take.there)) ⟨(WordF_0 r g g2).symm, (kF_yes r).symm⟩
        · refine g_skip ?_
          refine g_qt ?_
          refine g_region ?_
          refine g_pure (p_move rfl) rfl ?_
          first | refine g_pure (p_addi rfl rfl (by omega)) rfl ?_ | refine g_pure (p_add rfl rfl) rfl ?_
          refine g_pure (p_assign rfl) rfl ?_
          refine g_nil ?_
          refine g_qn ?_
          exact g_joined ((2, 0), (kF a t : Int) + 1) (by (repeat (first | exact trivial | refine ⟨by rfl, ?_⟩)); done) (by repeat' (first | exact Cover.nil | exact Take.here | apply Cover.cons | apply Take.there)) ⟨(WordF_u r g).symm, (kF_yes r).symm⟩
      · refine g_skip ?_
        refine g_qn ?_
        exact g_joined ((0, 0), (kF a t : Int)) (by (repeat (first | exact trivial | refine ⟨by rfl, ?_⟩)); done) (by repeat' (first | exact Cover.nil | exact Take.here | apply Cover.cons | apply Take.there)) ⟨(WordF_no r).1.symm, by rw [kF_skip (by rw [joint1]; exact r)]⟩
    rintro ⟨u, kk⟩ ⟨hu, hkk⟩
    dsimp only at hu hkk ⊢
    subst hkk
    rw [← hu] at hm2
    obtain ⟨u1, u2⟩ := u
    show G _ _ _ [Blk b8 (.cells [.int .i64 u1, .int .i64 u2].toArray 31 (0, 0)), Blk b2 (.cells [.slice ha hd.length hc, .slice la lp.length lc].toArray 42 (0, 0)), OwnSl 31 2 oa ((List.range t).map (WordF hd lp a)).length oc (((List.range t).map (WordF hd lp a)).flatMap encC)] _
    refine g_qt ?_
    refine g_region ?_
    refine g_pure (p_move rfl) rfl ?_
    first | refine g_pure (p_loadO (by rfl) rfl (by first | (apply Has.own; (repeat' (first | exact Take.here | apply Take.there)); done) | exact Has.ro (by assumption)) (by rfl)) rfl ?_ | refine g_pure (p_loadN (by rfl) rfl (by first | (apply Has.own; (repeat' (first | exact Take.here | apply Take.there)); done) | exact Has.ro (by assumption)) (by first | rfl | assumption)) rfl ?_
    refine g_eff (e_bs (xs := [.tmp 33]) rfl rfl rfl (by rfl) (by rfl) rfl (by rfl)) rfl (fun _ _ => ?_)
    rintro ⟨b34, rfl, rfl⟩
    refine g_eff (e_appendO (by rfl) (by rfl) rfl rfl (by first | (apply Has.own; (repeat' (first | exact Take.here | apply Take.there)); done) | exact Has.ro (by assumption)) (by rfl) (by rfl) (by repeat' (first | exact Take.here | apply Take.there)) (by omega) (by first | omega | (dsimp only; omega) | (simp <;> omega)) (by omega)) rfl (fun _ _ => ?_)
    rintro ⟨a35, c35, rfl, rfl⟩
    refine g_pure (p_assign rfl) rfl ?_
    refine g_nil ?_
    refine g_qb ?_
    refine g_qt ?_
    refine g_region ?_
    refine g_pure (p_move rfl) rfl ?_
    first | refine g_pure (p_addi rfl rfl (by omega)) rfl ?_ | refine g_pure (p_add rfl rfl) rfl ?_
    refine g_pure (p_assign rfl) rfl ?_
    refine g_nil ?_
    refine g_qn ?_
    rw [hm1]
    refine g_weak (A := OwnSl 31 2 a35 _ c35 (((List.range t).map (WordF hd lp a)).flatMap encC ++ encC (u1, u2))) (B := OwnSl 31 2 a35 ((List.range (t + 1)).map (WordF hd lp a)).length c35 (((List.range (t + 1)).map (WordF hd lp a)).flatMap encC)) (by repeat' (first | exact Take.here | apply Take.there)) (fun h hh => by rw [← hm2]; exact hh) ?_
    exact g_next (t + 1, a35, c35) (by (repeat (first | exact trivial | refine ⟨by rfl, ?_⟩)); done) (by repeat' (first | exact Cover.nil | exact Take.here | apply Cover.cons | apply Take.there)) (by dsimp only; omega) (by dsimp only; omega)
  · obtain rfl : t = a.length := by omega
    refine g_exit ?_
    refine g_qt_exit ?_
    refine g_qn_exit ?_
    refine g_qb_exit ?_
    refine g_qt ?_
    refine g_seq ?_
    refine g_region ?_
    refine g_pure (p_move rfl) rfl ?_
    refine g_pure (p_assign rfl) rfl ?_
    refine g_nil ?_
    refine g_qt ?_
    refine g_ret ?_
    exact g_post (rs := [.tmp 4]) rfl (.tmp rfl .nil) ⟨oa, oc, rfl, rfl⟩ (by repeat' (first | exact Cover.nil | exact Take.here | apply Cover.cons | apply Take.there))

theorem rd_bools {H : Type} {enc : TypeId × Value → H} {W : World} {cs : List Value} (h : Rdw enc Try.prog W 40 cs) :
    ∃ (a : Option Addr) (cap : Nat) (l : List Bool), cs = [.slice a l.length cap] ∧ l.length ≤ 1000000000000000 ∧ RSl (Old W) 1 a l.length (l.map encB) := by
  obtain ⟨a, cap, xss, h1, h2, _, _, _, h6⟩ := rdw_slice Try.underlying40 (size := 1) (by kernel_rfl) (by decide) h
  obtain ⟨a', cap', l, g1, g2, _, _, g5⟩ := rd_list1 (fun _ => True) encB Try.underlying40 (by kernel_rfl) (fun c h => let ⟨b, e⟩ := rd_bool Try.underlying4 h; ⟨b, e, trivial⟩) h.rdx
  have e : xss.length = l.length ∧ cap = cap' := by
    have := h1.symm.trans g1
    simp only [List.cons.injEq, Value.slice.injEq, and_true] at this
    exact ⟨this.2.1, this.2.2⟩
  rw [show Try.prog.bytesOf 4 = 1 by kernel_rfl] at h6
  exact ⟨a', cap', l, g1, by omega, g5⟩
theorem rd_word {H : Type} {enc : TypeId × Value → H} {W : World} {cs : List Value} (h : Rdw enc Try.prog W 42 cs) :
    ∃ (ha : Option Addr) (hc : Nat) (hd : List Bool) (la : Option Addr) (lc : Nat) (lp : List Bool), cs = [.slice ha hd.length hc, .slice la lp.length lc] ∧ WdR (Old W) ha la hd lp := by
  obtain ⟨hl, hf⟩ := rdw_struct Try.underlying42 h
  have h0 := hf 0 _ rfl
  have h1 := hf 1 _ rfl
  have hl2 : cs.length = 2 := hl
  match cs, hl2 with
  | [u, v], _ =>
    have h0' : Rdw enc Try.prog W 40 [u] := h0
    have h1' : Rdw enc Try.prog W 40 [v] := h1
    obtain ⟨ha, hc, hd, e, k1, k2⟩ := rd_bools h0'
    cases e
    obtain ⟨la, lc, lp, e, k3, k4⟩ := rd_bools h1'
    cases e
    exact ⟨ha, hc, hd, la, lc, lp, rfl, ⟨k2, k4, k1, k3⟩⟩
end Go.Proofs.Ytceecdjckhbncaa
