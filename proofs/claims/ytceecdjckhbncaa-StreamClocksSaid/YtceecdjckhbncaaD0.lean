/- Chapter 16, the document: delays and initial values. Conditions: none. -/
import Derived.Test.YtceecdjckhbncaaC9
namespace Go.Proofs.Ytceecdjckhbncaa
set_option linter.unusedVariables false
set_option linter.unusedSimpArgs false
set_option linter.unusedSectionVars false
open Go Go.Z Go.Z.Val

theorem dpre_ok {ρ : Nat → Obj → Prop} {a : List Ce} {aa : Option Addr} {ac : Nat} (ha : RSl ρ 2 aa a.length (a.flatMap encC)) (hlen : a.length ≤ 1000000) :
    Con Try.prog ρ 13 #[.slice aa a.length ac] [] (StrP (PreL a)) := by
  obtain ⟨_, bl, ol, kl, Tl, fl, hl⟩ := ha
  refine con_intro Try.func13 Try.call13 rfl Try.ntmps13 rfl (L := [(0, _)]) rfl fun w hh => ?_
  refine g_seq ?_
  refine g_region ?_
  refine g_pure (p_assign rfl) rfl ?_
  refine g_nil ?_
  refine g_qt ?_
  refine g_seq ?_
  refine g_region ?_
  refine g_pure (p_assign rfl) rfl ?_
  refine g_nil ?_
  refine g_qt ?_
  refine g_seq ?_
  refine g_seq ?_
  refine g_region ?_
  refine g_pure (p_assign rfl) rfl ?_
  refine g_nil ?_
  refine g_qt ?_
  refine g_block ?_
  refine g_ownnil (e := 31) (size := 2) ?_
  refine g_loop (fun q : Nat × Option Addr × Nat => [(0, .slice aa a.length ac), (3, .slice q.2.1 ((List.range q.1).map (PreF a)).length q.2.2), (4, .int .i64 q.1)]) (fun q => [OwnSl 31 2 q.2.1 ((List.range q.1).map (PreF a)).length q.2.2 (((List.range q.1).map (PreF a)).flatMap encC)]) (fun q => q.1 ≤ a.length) (fun q => a.length - q.1) (0, none, 0) (Nat.zero_le _) (by (repeat (first | exact trivial | refine ⟨by rfl, ?_⟩)); done) (by repeat' (first | exact Cover.nil | exact Take.here | apply Cover.cons | apply Take.there)) ?_
  rintro ⟨t, oa, oc⟩ ht
  dsimp only at ht ⊢
  have hil : ((List.range t).map (PreF a)).length = t := by simp
  refine g_seq ?_
  refine g_seq ?_
  refine g_region ?_
  refine g_pure (p_move rfl) rfl ?_
  refine g_pure (p_move rfl) rfl ?_
  refine g_pure (p_len (by rfl) rfl) rfl ?_
  refine g_pure (p_lss rfl rfl) rfl ?_
  refine g_nil ?_
  refine g_qt ?_
  refine g_ifd rfl (fun q => ?_) (fun q => ?_)
  · have htl : t < a.length := by omega
    obtain ⟨l1, l2, l3⟩ := hl (by omega)
    obtain ⟨x0, -, -⟩ := cell_at l3 htl
    have x0' : sub kl (ol + (t : Int).toNat * 2) 2 = some (encC (at0 a t)) := by rw [at0_eq htl]; exact x0
    clear x0
    have hm : (List.range (t + 1)).map (PreF a) = (List.range t).map (PreF a) ++ [PreF a t] := by rw [List.range_succ, List.map_append]; rfl
    have hm1 : ((List.range t).map (PreF a)).length + 1 = ((List.range (t + 1)).map (PreF a)).length := by rw [hm]; simp
    have hm2 : ((List.range t).map (PreF a)).flatMap encC ++ encC (PreF a t) = ((List.range (t + 1)).map (PreF a)).flatMap encC := by rw [hm]; simp
    refine g_skip ?_
    refine g_qt ?_
    refine g_seq ?_
    refine g_block ?_
    refine g_seq ?_
    refine g_region ?_
    refine g_pure (p_build (by rfl) rfl (by rfl)) rfl ?_
    refine g_eff (e_alloc (by rfl)) rfl (fun _ _ => ?_)
    rintro ⟨b5, rfl, rfl⟩
    first | refine g_eff0 (e_storeO rfl rfl (by rfl) (by rfl) (by rfl) (by repeat' (first | exact Take.here | apply Take.there)) (by rfl)) (fun _ _ => ?_) | refine g_eff0 (e_storeN rfl rfl (by rfl) (by rfl) (by rfl) (by repeat' (first | exact Take.here | apply Take.there)) (by simp)) (fun _ _ => ?_)
    rintro rfl
    refine g_nil ?_
    refine g_qt ?_
    refine g_seq ?_
    refine g_seq ?_
    refine g_region ?_
    refine g_pure (p_move rfl) rfl ?_
    refine g_pure (p_move rfl) rfl ?_
    refine g_pure (p_indexAddr rfl rfl (by omega) (fun _ => l1)) rfl ?_
    refine g_pure (p_loadN (by rfl) rfl (Has.ro l2) x0') rfl ?_
    refine g_call (Hin := []) (Hr := ?hr1) (R := ?rr1) rfl rfl rfl ?hin1 ?hc1 ?hk1
    case hin1 => repeat' (first | exact Cover.nil | exact Take.here | apply Cover.cons | apply Take.there)
    case hc1 => intro ρ' hρ hR; exact dthere_ok (at0 a t)
    rintro _ _ ⟨rfl, rfl⟩
    refine g_nil ?_
    refine g_qt ?_
    refine g_join (fun _ : Unit => [(0, .slice aa a.length ac), (3, .slice oa ((List.range t).map (PreF a)).length oc), (4, .int .i64 t), (5, .pointer (some ⟨b5, 0, none⟩))]) (fun _ => [Blk b5 (.cells (encC (PreF a t)).toArray 31 (0, 0)), OwnSl 31 2 oa ((List.range t).map (PreF a)).length oc (((List.range t).map (PreF a)).flatMap encC)]) (fun _ => True) ?_ ?_
    · refine g_if rfl (fun r => ?_) (fun r => ?_)
      · have hpre : PreF a t = lastF a t := by unfold PreF; rw [if_pos r]
        rw [hpre]
        refine g_seq ?_
        refine g_region ?_
        refine g_pure (p_build (by rfl) rfl (by rfl)) rfl ?_
        first | refine g_eff0 (e_storeO rfl rfl (by rfl) (by rfl) (by rfl) (by repeat' (first | exact Take.here | apply Take.there)) (by rfl)) (fun _ _ => ?_) | refine g_eff0 (e_storeN rfl rfl (by rfl) (by rfl) (by rfl) (by repeat' (first | exact Take.here | apply Take.there)) (by simp)) (fun _ _ => ?_)
        rintro rfl
        refine g_nil ?_
        refine g_qt ?_
        refine g_seq ?_
        refine g_region ?_
        refine g_pure (p_assign rfl) rfl ?_
        refine g_nil ?_
        refine g_qt ?_
        refine g_block ?_
        refine g_loop (fun k : Nat => [(0, .slice aa a.length ac), (3, .slice oa ((List.range t).map (PreF a)).length oc), (4, .int .i64 t), (5, .pointer (some ⟨b5, 0, none⟩)), (6, .int .i64 k)]) (fun k => [Blk b5 (.cells (encC (lastF a k)).toArray 31 (0, 0)), OwnSl 31 2 oa ((List.range t).map (PreF a)).length oc (((List.range t).map (PreF a)).flatMap encC)]) (fun k => k ≤ t) (fun k => t - k) 0 (Nat.zero_le _) (by (repeat (first | exact trivial | refine ⟨by rfl, ?_⟩)); done) (by repeat' (first | exact Cover.nil | exact Take.here | apply Cover.cons | apply Take.there)) ?_
        intro k hk
        refine g_seq ?_
        refine g_seq ?_
        refine g_region ?_
        refine g_pure (p_move rfl) rfl ?_
        refine g_pure (p_move rfl) rfl ?_
        refine g_pure (p_lss rfl rfl) rfl ?_
        refine g_nil ?_
        refine g_qt ?_
        refine g_ifd rfl (fun s => ?_) (fun s => ?_)
        · have hkl : k < a.length := by omega
          obtain ⟨y0, -, -⟩ := cell_at l3 hkl
          have y0' : sub kl (ol + (k : Int).toNat * 2) 2 = some (encC (at0 a k)) := by rw [at0_eq hkl]; exact y0
          clear y0
          have hgo : thereB (at0 a k) = true → lastF a (k + 1) = cleanF (at0 a k) := fun h => by show (if _ then _ else _) = _; rw [if_pos h]
          have hst : thereB (at0 a k) = false → lastF a (k + 1) = lastF a k := fun h => by show (if _ then _ else _) = _; rw [if_neg (by rw [h]; simp)]
          generalize at0 a k = u at *
          refine g_skip ?_
          refine g_qt ?_
          refine g_seq ?_
          refine g_block ?_
          refine g_seq ?_
          refine g_region ?_
          refine g_pure (p_move rfl) rfl ?_
          refine g_pure (p_move rfl) rfl ?_
          refine g_pure (p_indexAddr rfl rfl (by omega) (fun _ => l1)) rfl ?_
          refine g_pure (p_loadN (by rfl) rfl (Has.ro l2) y0') rfl ?_
          refine g_call (Hin := []) (Hr := ?hr2) (R := ?rr2) rfl rfl rfl ?hin2 ?hc2 ?hk2
          case hin2 => repeat' (first | exact Cover.nil | exact Take.here | apply Cover.cons | apply Take.there)
          case hc2 => intro ρ' hρ hR; exact dthere_ok u
          rintro _ _ ⟨rfl, rfl⟩
          refine g_nil ?_
          refine g_qt ?_
          refine g_if rfl (fun v => ?_) (fun v => ?_)
          · refine g_region ?_
            refine g_pure (p_move rfl) rfl ?_
            refine g_pure (p_move rfl) rfl ?_
            refine g_pure (p_indexAddr rfl rfl (by omega) (fun _ => l1)) rfl ?_
            refine g_pure (p_loadN (by rfl) rfl (Has.ro l2) y0') rfl ?_
            refine g_call (Hin := []) (Hr := ?hr3) (R := ?rr3) rfl rfl rfl ?hin3 ?hc3 ?hk3
            case hin3 => repeat' (first | exact Cover.nil | exact Take.here | apply Cover.cons | apply Take.there)
            case hc3 => intro ρ' hρ hR; exact plain_ok u
            rintro _ _ ⟨rfl, rfl⟩
            generalize hz : lastF a k = z
            rw [← hgo v]
            obtain ⟨z1, z2⟩ := z
            obtain ⟨⟨w1, w2⟩, hw⟩ : ∃ w, w = lastF a (k + 1) := ⟨_, rfl⟩
            rw [← hw]
            unfold aggC
            show G _ _ _ [Blk b5 (.cells [.int .i64 z1, .int .i64 z2].toArray 31 (0, 0)), OwnSl 31 2 oa ((List.range t).map (PreF a)).length oc (((List.range t).map (PreF a)).flatMap encC)] _
            first | refine g_eff0 (e_storeO rfl rfl (by rfl) (by rfl) (by rfl) (by repeat' (first | exact Take.here | apply Take.there)) (by rfl)) (fun _ _ => ?_) | refine g_eff0 (e_storeN rfl rfl (by rfl) (by rfl) (by rfl) (by repeat' (first | exact Take.here | apply Take.there)) (by simp)) (fun _ _ => ?_)
            rintro rfl
            refine g_nil ?_
            refine g_qb ?_
            refine g_qt ?_
            refine g_region ?_
            refine g_pure (p_move rfl) rfl ?_
            first | refine g_pure (p_addi rfl rfl (by omega)) rfl ?_ | refine g_pure (p_add rfl rfl) rfl ?_
            refine g_pure (p_assign rfl) rfl ?_
            refine g_nil ?_
            refine g_qn ?_
            refine g_weak (A := Blk b5 (.cells (encC (w1, w2)).toArray 31 (0, 0))) (B := Blk b5 (.cells (encC (lastF a (k + 1))).toArray 31 (0, 0))) (by repeat' (first | exact Take.here | apply Take.there)) (fun h hh => by rw [← hw]; exact hh) ?_
            exact g_next (k + 1) (by (repeat (first | exact trivial | refine ⟨by rfl, ?_⟩)); done) (by repeat' (first | exact Cover.nil | exact Take.here | apply Cover.cons | apply Take.there)) (by omega) (by omega)
          · rw [← hst v]
            refine g_skip ?_
            refine g_qb ?_
            refine g_qt ?_
            refine g_region ?_
            refine g_pure (p_move rfl) rfl ?_
            first | refine g_pure (p_addi rfl rfl (by omega)) rfl ?_ | refine g_pure (p_add rfl rfl) rfl ?_
            refine g_pure (p_assign rfl) rfl ?_
            refine g_nil ?_
            refine g_qn ?_
            exact g_next (k + 1) (by (repeat (first | exact trivial | refine ⟨by rfl, ?_⟩)); done) (by repeat' (first | exact Cover.nil | exact Take.here | apply Cover.cons | apply Take.there)) (by omega) (by omega)
        · obtain rfl : k = t := by omega
          refine g_exit ?_
          refine g_qt_exit ?_
          refine g_qn_exit ?_
          refine g_qb_exit ?_
          refine g_qn ?_
          exact g_joined () (by (repeat (first | exact trivial | refine ⟨by rfl, ?_⟩)); done) (by repeat' (first | exact Cover.nil | exact Take.here | apply Cover.cons | apply Take.there)) trivial
      · have hpre : PreF a t = (0, 0) := by unfold PreF; rw [if_neg (by rw [r]; simp)]
        rw [hpre]
        refine g_skip ?_
        refine g_qn ?_
        exact g_joined () (by (repeat (first | exact trivial | refine ⟨by rfl, ?_⟩)); done) (by repeat' (first | exact Cover.nil | exact Take.here | apply Cover.cons | apply Take.there)) trivial
    rintro - -
    generalize PreF a t = u at *
    obtain ⟨u1, u2⟩ := u
    show G _ _ _ [Blk b5 (.cells [.int .i64 u1, .int .i64 u2].toArray 31 (0, 0)), OwnSl 31 2 oa ((List.range t).map (PreF a)).length oc (((List.range t).map (PreF a)).flatMap encC)] _
    refine g_qt ?_
    refine g_region ?_
    refine g_pure (p_move rfl) rfl ?_
    first | refine g_pure (p_loadO (by rfl) rfl (by first | (apply Has.own; (repeat' (first | exact Take.here | apply Take.there)); done) | exact Has.ro (by assumption)) (by rfl)) rfl ?_ | refine g_pure (p_loadN (by rfl) rfl (by first | (apply Has.own; (repeat' (first | exact Take.here | apply Take.there)); done) | exact Has.ro (by assumption)) (by first | rfl | assumption)) rfl ?_
    refine g_eff (e_bs (xs := [.tmp 36]) rfl rfl rfl (by rfl) (by rfl) rfl (by rfl)) rfl (fun _ _ => ?_)
    rintro ⟨b37, rfl, rfl⟩
    refine g_eff (e_appendO (by rfl) (by rfl) rfl rfl (by first | (apply Has.own; (repeat' (first | exact Take.here | apply Take.there)); done) | exact Has.ro (by assumption)) (by rfl) (by rfl) (by repeat' (first | exact Take.here | apply Take.there)) (by omega) (by first | omega | (dsimp only; omega) | (simp <;> omega)) (by omega)) rfl (fun _ _ => ?_)
    rintro ⟨a38, c38, rfl, rfl⟩
    refine g_pure (p_assign rfl) rfl ?_
    refine g_nil ?_
    refine g_qb ?_
    refine g_qt ?_
    refine g_region ?_
    refine g_pure (p_move rfl) rfl ?_
    first | refine g_pure (p_addi rfl rfl (by omega)) rfl ?_ | refine g_pure (p_add rfl rfl) rfl ?_
    refine g_pure (p_assign rfl) rfl ?_
    refine g_nil ?_
    refine g_qn ?_
    rw [hm1]
    refine g_weak (A := OwnSl 31 2 a38 _ c38 (((List.range t).map (PreF a)).flatMap encC ++ encC (u1, u2))) (B := OwnSl 31 2 a38 ((List.range (t + 1)).map (PreF a)).length c38 (((List.range (t + 1)).map (PreF a)).flatMap encC)) (by repeat' (first | exact Take.here | apply Take.there)) (fun h hh => by rw [← hm2]; exact hh) ?_
    exact g_next (t + 1, a38, c38) (by (repeat (first | exact trivial | refine ⟨by rfl, ?_⟩)); done) (by repeat' (first | exact Cover.nil | exact Take.here | apply Cover.cons | apply Take.there)) (by dsimp only; omega) (by dsimp only; omega)
  · obtain rfl : t = a.length := by omega
    refine g_exit ?_
    refine g_qt_exit ?_
    refine g_qn_exit ?_
    refine g_qb_exit ?_
    refine g_qt ?_
    refine g_seq ?_
    refine g_region ?_
    refine g_pure (p_move rfl) rfl ?_
    refine g_pure (p_assign rfl) rfl ?_
    refine g_nil ?_
    refine g_qt ?_
    refine g_ret ?_
    exact g_post (rs := [.tmp 2]) rfl (.tmp rfl .nil) ⟨oa, oc, rfl, rfl⟩ (by repeat' (first | exact Cover.nil | exact Take.here | apply Cover.cons | apply Take.there))
end Go.Proofs.Ytceecdjckhbncaa
