/- Chapter 16, the document: initial values. Conditions: none. -/
import Derived.Test.YtceecdjckhbncaaD0
namespace Go.Proofs.Ytceecdjckhbncaa
set_option linter.unusedVariables false
set_option linter.unusedSimpArgs false
set_option linter.unusedSectionVars false
open Go Go.Z Go.Z.Val

theorem darrow_ok {ρ : Nat → Obj → Prop} {a b : List Ce} {aa ba : Option Addr} {ac bc : Nat} (ha : RSl ρ 2 aa a.length (a.flatMap encC)) (hb : RSl ρ 2 ba b.length (b.flatMap encC)) (hlen : a.length ≤ 1000000) (hlen2 : b.length ≤ 1000000) :
    Con Try.prog ρ 15 #[.slice aa a.length ac, .slice ba b.length bc] [] (StrP (ArrowL a b)) := by
  obtain ⟨_, bl, ol, kl, Tl, fl, hl⟩ := id ha
  obtain ⟨_, bm, om, km, Tm, fm, hm0⟩ := id hb
  have hlm := lenF2 a b
  refine con_intro Try.func15 Try.call15 rfl Try.ntmps15 rfl (L := [(0, _), (1, _)]) rfl fun w hh => ?_
  refine g_seq ?_
  refine g_region ?_
  refine g_pure (p_assign rfl) rfl ?_
  refine g_nil ?_
  refine g_qt ?_
  refine g_seq ?_
  refine g_region ?_
  refine g_pure (p_assign rfl) rfl ?_
  refine g_nil ?_
  refine g_qt ?_
  refine g_seq ?_
  refine g_region ?_
  refine g_pure (p_move rfl) rfl ?_
  refine g_pure (p_move rfl) rfl ?_
  refine g_eff (e_bs (xs := [.tmp 10, .tmp 11]) rfl rfl rfl (by rfl) (by rfl) rfl (by rfl)) rfl (fun _ _ => ?_)
  rintro ⟨b12, rfl, rfl⟩
  refine g_pure (p_assign rfl) rfl ?_
  refine g_nil ?_
  refine g_qt ?_
  refine g_seq ?_
  refine g_region ?_
  refine g_pure (p_assign rfl) rfl ?_
  refine g_nil ?_
  refine g_qt ?_
  refine g_seq ?_
  refine g_seq ?_
  refine g_region ?_
  refine g_pure (p_assign rfl) rfl ?_
  refine g_nil ?_
  refine g_qt ?_
  refine g_block ?_
  refine g_ownnil (e := 31) (size := 2) ?_
  refine g_loop (fun q : Nat × Option Addr × Nat => [(0, .slice aa a.length ac), (1, .slice ba b.length bc), (5, .slice q.2.1 ((List.range q.1).map (ArrowF a b)).length q.2.2), (6, .slice (some ⟨b12, 0, none⟩) 2 2), (7, .bool (firstF a b q.1)), (8, .int .i64 q.1)]) (fun q => [Blk b12 (.cells [.slice aa a.length ac, .slice ba b.length bc].toArray 22 (0, 0)), OwnSl 31 2 q.2.1 ((List.range q.1).map (ArrowF a b)).length q.2.2 (((List.range q.1).map (ArrowF a b)).flatMap encC)]) (fun q => q.1 ≤ min a.length b.length) (fun q => min a.length b.length - q.1) (0, none, 0) (Nat.zero_le _) (by (repeat (first | exact trivial | refine ⟨by rfl, ?_⟩)); done) (by repeat' (first | exact Cover.nil | exact Take.here | apply Cover.cons | apply Take.there)) ?_
  rintro ⟨t, oa, oc⟩ ht
  dsimp only at ht ⊢
  have hil : ((List.range t).map (ArrowF a b)).length = t := by simp
  refine g_seq ?_
  refine g_seq ?_
  refine g_region ?_
  refine g_pure (p_move rfl) rfl ?_
  refine g_pure (p_move rfl) rfl ?_
  refine g_call (Hin := []) (Hr := ?hr1) (R := ?rr1) rfl rfl rfl ?hin1 ?hc1 ?hk1
  case hin1 => repeat' (first | exact Cover.nil | exact Take.here | apply Cover.cons | apply Take.there)
  case hc1 => intro ρ' hρ hR; exact together_ok (l := [a, b]) (SlS.of2 hR.1.blk (ha.mono hρ) (hb.mono hρ)) (by simp)
  rintro _ _ ⟨rfl, rfl⟩
  refine g_pure (p_lss rfl rfl) rfl ?_
  refine g_nil ?_
  refine g_qt ?_
  refine g_ifd rfl (fun q => ?_) (fun q => ?_)
  · rw [hlm] at q
    have htl : t < a.length := by omega
    have htm : t < b.length := by omega
    obtain ⟨l1, l2, l3⟩ := hl (by omega)
    obtain ⟨m1, m2, m3⟩ := hm0 (by omega)
    obtain ⟨x0, -, -⟩ := cell_at l3 htl
    obtain ⟨y0, -, -⟩ := cell_at m3 htm
    have x0' : sub kl (ol + (t : Int).toNat * 2) 2 = some (encC (at0 a t)) := by rw [at0_eq htl]; exact x0
    have y0' : sub km (om + (t : Int).toNat * 2) 2 = some (encC (at0 b t)) := by rw [at0_eq htm]; exact y0
    clear x0 y0
    have hm : (List.range (t + 1)).map (ArrowF a b) = (List.range t).map (ArrowF a b) ++ [ArrowF a b t] := by rw [List.range_succ, List.map_append]; rfl
    have hm1 : ((List.range t).map (ArrowF a b)).length + 1 = ((List.range (t + 1)).map (ArrowF a b)).length := by rw [hm]; simp
    have hm2 : ((List.range t).map (ArrowF a b)).flatMap encC ++ encC (ArrowF a b t) = ((List.range (t + 1)).map (ArrowF a b)).flatMap encC := by rw [hm]; simp
    refine g_skip ?_
    refine g_qt ?_
    refine g_seq ?_
    refine g_block ?_
    refine g_seq ?_
    refine g_region ?_
    refine g_pure (p_build (by rfl) rfl (by rfl)) rfl ?_
    refine g_eff (e_alloc (by rfl)) rfl (fun _ _ => ?_)
    rintro ⟨b9, rfl, rfl⟩
    first | refine g_eff0 (e_storeO rfl rfl (by rfl) (by rfl) (by rfl) (by repeat' (first | exact Take.here | apply Take.there)) (by rfl)) (fun _ _ => ?_) | refine g_eff0 (e_storeN rfl rfl (by rfl) (by rfl) (by rfl) (by repeat' (first | exact Take.here | apply Take.there)) (by simp)) (fun _ _ => ?_)
    rintro rfl
    refine g_nil ?_
    refine g_qt ?_
    refine g_seq ?_
    refine g_seq ?_
    refine g_region ?_
    refine g_pure (p_move rfl) rfl ?_
    refine g_pure (p_move rfl) rfl ?_
    refine g_call (Hin := []) (Hr := ?hr2) (R := ?rr2) rfl rfl rfl ?hin2 ?hc2 ?hk2
    case hin2 => repeat' (first | exact Cover.nil | exact Take.here | apply Cover.cons | apply Take.there)
    case hc2 => intro ρ' hρ hR; exact joint_ok (t := t) (l := [a, b]) (SlS.of2 hR.2.1.blk (ha.mono hρ) (hb.mono hρ)) (by simp) (by rw [hlm]; omega) (by omega)
    rintro _ _ ⟨rfl, rfl⟩
    refine g_nil ?_
    refine g_qt ?_
    refine g_join (fun _ : Unit => [(0, .slice aa a.length ac), (1, .slice ba b.length bc), (5, .slice oa ((List.range t).map (ArrowF a b)).length oc), (6, .slice (some ⟨b12, 0, none⟩) 2 2), (7, .bool (firstF a b (t + 1))), (8, .int .i64 t), (9, .pointer (some ⟨b9, 0, none⟩))]) (fun _ => [Blk b9 (.cells (encC (ArrowF a b t)).toArray 31 (0, 0)), Blk b12 (.cells [.slice aa a.length ac, .slice ba b.length bc].toArray 22 (0, 0)), OwnSl 31 2 oa ((List.range t).map (ArrowF a b)).length oc (((List.range t).map (ArrowF a b)).flatMap encC)]) (fun _ => True) ?_ ?_
    · refine g_if rfl (fun r => ?_) (fun r => ?_)
      · have hpre : ArrowF a b t = if firstF a b t then cleanF (at0 a t) else cleanF (at0 b t) := by unfold ArrowF; rw [if_pos r]
        rw [hpre, firstF_go r]
        refine g_seq ?_
        refine g_region ?_
        refine g_pure (p_move rfl) rfl ?_
        refine g_pure (p_move rfl) rfl ?_
        refine g_pure (p_indexAddr rfl rfl (by omega) (fun _ => m1)) rfl ?_
        refine g_pure (p_loadN (by rfl) rfl (Has.ro m2) y0') rfl ?_
        refine g_call (Hin := []) (Hr := ?hr3) (R := ?rr3) rfl rfl rfl ?hin3 ?hc3 ?hk3
        case hin3 => repeat' (first | exact Cover.nil | exact Take.here | apply Cover.cons | apply Take.there)
        case hc3 => intro ρ' hρ hR; exact plain_ok (at0 b t)
        rintro _ _ ⟨rfl, rfl⟩
        generalize cleanF (at0 b t) = v at *
        obtain ⟨v1, v2⟩ := v
        unfold aggC
        first | refine g_eff0 (e_storeO rfl rfl (by rfl) (by rfl) (by rfl) (by repeat' (first | exact Take.here | apply Take.there)) (by rfl)) (fun _ _ => ?_) | refine g_eff0 (e_storeN rfl rfl (by rfl) (by rfl) (by rfl) (by repeat' (first | exact Take.here | apply Take.there)) (by simp)) (fun _ _ => ?_)
        rintro rfl
        refine g_nil ?_
        refine g_qt ?_
        refine g_seq ?_
        refine g_seq ?_
        refine g_region ?_
        refine g_pure (p_move rfl) rfl ?_
        refine g_nil ?_
        refine g_qt ?_
        cases hf : firstF a b t with
        | true =>
          refine g_ift rfl ?_
          refine g_region ?_
          refine g_pure (p_move rfl) rfl ?_
          refine g_pure (p_move rfl) rfl ?_
          refine g_pure (p_indexAddr rfl rfl (by omega) (fun _ => l1)) rfl ?_
          refine g_pure (p_loadN (by rfl) rfl (Has.ro l2) x0') rfl ?_
          refine g_call (Hin := []) (Hr := ?hr4) (R := ?rr4) rfl rfl rfl ?hin4 ?hc4 ?hk4
          case hin4 => repeat' (first | exact Cover.nil | exact Take.here | apply Cover.cons | apply Take.there)
          case hc4 => intro ρ' hρ hR; exact plain_ok (at0 a t)
          rintro _ _ ⟨rfl, rfl⟩
          generalize cleanF (at0 a t) = u at *
          obtain ⟨u1, u2⟩ := u
          unfold aggC
          first | refine g_eff0 (e_storeO rfl rfl (by rfl) (by rfl) (by rfl) (by repeat' (first | exact Take.here | apply Take.there)) (by rfl)) (fun _ _ => ?_) | refine g_eff0 (e_storeN rfl rfl (by rfl) (by rfl) (by rfl) (by repeat' (first | exact Take.here | apply Take.there)) (by simp)) (fun _ _ => ?_)
          rintro rfl
          refine g_nil ?_
          refine g_qt ?_
          refine g_region ?_
          refine g_pure (p_assign rfl) rfl ?_
          refine g_nil ?_
          refine g_qn ?_
          exact g_joined () (by (repeat (first | exact trivial | refine ⟨by rfl, ?_⟩)); done) (by repeat' (first | exact Cover.nil | exact Take.here | apply Cover.cons | apply Take.there)) trivial
        | false =>
          refine g_iff rfl ?_
          refine g_skip ?_
          refine g_qt ?_
          refine g_region ?_
          refine g_pure (p_assign rfl) rfl ?_
          refine g_nil ?_
          refine g_qn ?_
          exact g_joined () (by (repeat (first | exact trivial | refine ⟨by rfl, ?_⟩)); done) (by repeat' (first | exact Cover.nil | exact Take.here | apply Cover.cons | apply Take.there)) trivial
      · have hpre : ArrowF a b t = (0, 0) := by unfold ArrowF; rw [if_neg (by rw [r]; simp)]
        rw [hpre, firstF_skip r]
        refine g_skip ?_
        refine g_qn ?_
        exact g_joined () (by (repeat (first | exact trivial | refine ⟨by rfl, ?_⟩)); done) (by repeat' (first | exact Cover.nil | exact Take.here | apply Cover.cons | apply Take.there)) trivial
    rintro - -
    generalize ArrowF a b t = u at *
    obtain ⟨u1, u2⟩ := u
    show G _ _ _ [Blk b9 (.cells [.int .i64 u1, .int .i64 u2].toArray 31 (0, 0)), Blk b12 (.cells [.slice aa a.length ac, .slice ba b.length bc].toArray 22 (0, 0)), OwnSl 31 2 oa ((List.range t).map (ArrowF a b)).length oc (((List.range t).map (ArrowF a b)).flatMap encC)] _
    refine g_qt ?_
    refine g_region ?_
    refine g_pure (p_move rfl) rfl ?_
    first | refine g_pure (p_loadO (by rfl) rfl (by first | (apply Has.own; (repeat' (first | exact Take.here | apply Take.there)); done) | exact Has.ro (by assumption)) (by rfl)) rfl ?_ | refine g_pure (p_loadN (by rfl) rfl (by first | (apply Has.own; (repeat' (first | exact Take.here | apply Take.there)); done) | exact Has.ro (by assumption)) (by first | rfl | assumption)) rfl ?_
    refine g_eff (e_bs (xs := [.tmp 35]) rfl rfl rfl (by rfl) (by rfl) rfl (by rfl)) rfl (fun _ _ => ?_)
    rintro ⟨b36, rfl, rfl⟩
    refine g_eff (e_appendO (by rfl) (by rfl) rfl rfl (by first | (apply Has.own; (repeat' (first | exact Take.here | apply Take.there)); done) | exact Has.ro (by assumption)) (by rfl) (by rfl) (by repeat' (first | exact Take.here | apply Take.there)) (by omega) (by first | omega | (dsimp only; omega) | (simp <;> omega)) (by omega)) rfl (fun _ _ => ?_)
    rintro ⟨a37, c37, rfl, rfl⟩
    refine g_pure (p_assign rfl) rfl ?_
    refine g_nil ?_
    refine g_qb ?_
    refine g_qt ?_
    refine g_region ?_
    refine g_pure (p_move rfl) rfl ?_
    first | refine g_pure (p_addi rfl rfl (by omega)) rfl ?_ | refine g_pure (p_add rfl rfl) rfl ?_
    refine g_pure (p_assign rfl) rfl ?_
    refine g_nil ?_
    refine g_qn ?_
    rw [hm1]
    refine g_weak (A := OwnSl 31 2 a37 _ c37 (((List.range t).map (ArrowF a b)).flatMap encC ++ encC (u1, u2))) (B := OwnSl 31 2 a37 ((List.range (t + 1)).map (ArrowF a b)).length c37 (((List.range (t + 1)).map (ArrowF a b)).flatMap encC)) (by repeat' (first | exact Take.here | apply Take.there)) (fun h hh => by rw [← hm2]; exact hh) ?_
    exact g_next (t + 1, a37, c37) (by (repeat (first | exact trivial | refine ⟨by rfl, ?_⟩)); done) (by repeat' (first | exact Cover.nil | exact Take.here | apply Cover.cons | apply Take.there)) (by dsimp only; omega) (by dsimp only; omega)
  · rw [hlm] at q
    obtain rfl : t = min a.length b.length := by omega
    refine g_exit ?_
    refine g_qt_exit ?_
    refine g_qn_exit ?_
    refine g_qb_exit ?_
    refine g_qt ?_
    refine g_seq ?_
    refine g_region ?_
    refine g_pure (p_move rfl) rfl ?_
    refine g_pure (p_assign rfl) rfl ?_
    refine g_nil ?_
    refine g_qt ?_
    refine g_ret ?_
    exact g_post (rs := [.tmp 4]) rfl (.tmp rfl .nil) ⟨oa, oc, rfl, rfl⟩ (by repeat' (first | exact Cover.nil | exact Take.here | apply Cover.cons | apply Take.there))

/-- where both were there last, or -1 -/
def lastI (a b : List Ce) : Nat → Int
  | 0 => -1
  | t + 1 => if jointF [a, b] t then t else lastI a b t
theorem lastI_spec (a b : List Ce) : ∀ t, (firstF a b t = true ∧ lastI a b t = -1) ∨ (firstF a b t = false ∧ 0 ≤ lastI a b t ∧ lastI a b t < t ∧ lastB a b t = cleanF (at0 b (lastI a b t).toNat))
  | 0 => .inl ⟨rfl, rfl⟩
  | t + 1 => by
    cases h : jointF [a, b] t with
    | true =>
      right
      have e : lastI a b (t + 1) = t := by show (if _ then _ else _) = _; rw [if_pos h]
      rw [firstF_go h, lastB_go h, e]
      exact ⟨rfl, by omega, by omega, by simp⟩
    | false =>
      have e : lastI a b (t + 1) = lastI a b t := by show (if _ then _ else _) = _; rw [if_neg (by rw [h]; simp)]
      rw [firstF_skip h, lastB_skip h, e]
      rcases lastI_spec a b t with h1 | ⟨h1, h2, h3, h4⟩
      · exact .inl h1
      · exact .inr ⟨h1, h2, by omega, h4⟩
theorem lastI_go {a b : List Ce} {t : Nat} (h : jointF [a, b] t = true) : lastI a b (t + 1) = t := by show (if _ then _ else _) = _; rw [if_pos h]
theorem lastI_skip {a b : List Ce} {t : Nat} (h : jointF [a, b] t = false) : lastI a b (t + 1) = lastI a b t := by show (if _ then _ else _) = _; rw [if_neg (by rw [h]; simp)]

theorem dfby_ok {ρ : Nat → Obj → Prop} {a b : List Ce} {aa ba : Option Addr} {ac bc : Nat} (ha : RSl ρ 2 aa a.length (a.flatMap encC)) (hb : RSl ρ 2 ba b.length (b.flatMap encC)) (hlen : a.length ≤ 1000000) (hlen2 : b.length ≤ 1000000) :
    Con Try.prog ρ 17 #[.slice aa a.length ac, .slice ba b.length bc] [] (StrP (FbyL a b)) := by
  obtain ⟨_, bl, ol, kl, Tl, fl, hl⟩ := id ha
  obtain ⟨_, bm, om, km, Tm, fm, hm0⟩ := id hb
  have hlm := lenF2 a b
  refine con_intro Try.func17 Try.call17 rfl Try.ntmps17 rfl (L := [(0, _), (1, _)]) rfl fun w hh => ?_
  refine g_seq ?_
  refine g_region ?_
  refine g_pure (p_assign rfl) rfl ?_
  refine g_nil ?_
  refine g_qt ?_
  refine g_seq ?_
  refine g_region ?_
  refine g_pure (p_assign rfl) rfl ?_
  refine g_nil ?_
  refine g_qt ?_
  refine g_seq ?_
  refine g_region ?_
  refine g_pure (p_move rfl) rfl ?_
  refine g_pure (p_move rfl) rfl ?_
  refine g_eff (e_bs (xs := [.tmp 10, .tmp 11]) rfl rfl rfl (by rfl) (by rfl) rfl (by rfl)) rfl (fun _ _ => ?_)
  rintro ⟨b12, rfl, rfl⟩
  refine g_pure (p_assign rfl) rfl ?_
  refine g_nil ?_
  refine g_qt ?_
  refine g_seq ?_
  refine g_region ?_
  refine g_pure (p_assign rfl) rfl ?_
  refine g_nil ?_
  refine g_qt ?_
  refine g_seq ?_
  refine g_seq ?_
  refine g_region ?_
  refine g_pure (p_assign rfl) rfl ?_
  refine g_nil ?_
  refine g_qt ?_
  refine g_block ?_
  refine g_ownnil (e := 31) (size := 2) ?_
  refine g_loop (fun q : Nat × Option Addr × Nat => [(0, .slice aa a.length ac), (1, .slice ba b.length bc), (5, .slice q.2.1 ((List.range q.1).map (FbyF a b)).length q.2.2), (6, .slice (some ⟨b12, 0, none⟩) 2 2), (7, .int .i64 (lastI a b q.1)), (8, .int .i64 q.1)]) (fun q => [Blk b12 (.cells [.slice aa a.length ac, .slice ba b.length bc].toArray 22 (0, 0)), OwnSl 31 2 q.2.1 ((List.range q.1).map (FbyF a b)).length q.2.2 (((List.range q.1).map (FbyF a b)).flatMap encC)]) (fun q => q.1 ≤ min a.length b.length) (fun q => min a.length b.length - q.1) (0, none, 0) (Nat.zero_le _) (by (repeat (first | exact trivial | refine ⟨by rfl, ?_⟩)); done) (by repeat' (first | exact Cover.nil | exact Take.here | apply Cover.cons | apply Take.there)) ?_
  rintro ⟨t, oa, oc⟩ ht
  dsimp only at ht ⊢
  have hil : ((List.range t).map (FbyF a b)).length = t := by simp
  refine g_seq ?_
  refine g_seq ?_
  refine g_region ?_
  refine g_pure (p_move rfl) rfl ?_
  refine g_pure (p_move rfl) rfl ?_
  refine g_call (Hin := []) (Hr := ?hr5) (R := ?rr5) rfl rfl rfl ?hin5 ?hc5 ?hk5
  case hin5 => repeat' (first | exact Cover.nil | exact Take.here | apply Cover.cons | apply Take.there)
  case hc5 => intro ρ' hρ hR; exact together_ok (l := [a, b]) (SlS.of2 hR.1.blk (ha.mono hρ) (hb.mono hρ)) (by simp)
  rintro _ _ ⟨rfl, rfl⟩
  refine g_pure (p_lss rfl rfl) rfl ?_
  refine g_nil ?_
  refine g_qt ?_
  refine g_ifd rfl (fun q => ?_) (fun q => ?_)
  · rw [hlm] at q
    have htl : t < a.length := by omega
    have htm : t < b.length := by omega
    obtain ⟨l1, l2, l3⟩ := hl (by omega)
    obtain ⟨m1, m2, m3⟩ := hm0 (by omega)
    obtain ⟨x0, -, -⟩ := cell_at l3 htl
    have x0' : sub kl (ol + (t : Int).toNat * 2) 2 = some (encC (at0 a t)) := by rw [at0_eq htl]; exact x0
    clear x0
    have hm : (List.range (t + 1)).map (FbyF a b) = (List.range t).map (FbyF a b) ++ [FbyF a b t] := by rw [List.range_succ, List.map_append]; rfl
    have hm1 : ((List.range t).map (FbyF a b)).length + 1 = ((List.range (t + 1)).map (FbyF a b)).length := by rw [hm]; simp
    have hm2 : ((List.range t).map (FbyF a b)).flatMap encC ++ encC (FbyF a b t) = ((List.range (t + 1)).map (FbyF a b)).flatMap encC := by rw [hm]; simp
    refine g_skip ?_
    refine g_qt ?_
    refine g_seq ?_
    refine g_block ?_
    refine g_seq ?_
    refine g_region ?_
    refine g_pure (p_build (by rfl) rfl (by rfl)) rfl ?_
    refine g_eff (e_alloc (by rfl)) rfl (fun _ _ => ?_)
    rintro ⟨b9, rfl, rfl⟩
    first | refine g_eff0 (e_storeO rfl rfl (by rfl) (by rfl) (by rfl) (by repeat' (first | exact Take.here | apply Take.there)) (by rfl)) (fun _ _ => ?_) | refine g_eff0 (e_storeN rfl rfl (by rfl) (by rfl) (by rfl) (by repeat' (first | exact Take.here | apply Take.there)) (by simp)) (fun _ _ => ?_)
    rintro rfl
    refine g_nil ?_
    refine g_qt ?_
    refine g_seq ?_
    refine g_seq ?_
    refine g_region ?_
    refine g_pure (p_move rfl) rfl ?_
    refine g_pure (p_move rfl) rfl ?_
    refine g_call (Hin := []) (Hr := ?hr6) (R := ?rr6) rfl rfl rfl ?hin6 ?hc6 ?hk6
    case hin6 => repeat' (first | exact Cover.nil | exact Take.here | apply Cover.cons | apply Take.there)
    case hc6 => intro ρ' hρ hR; exact joint_ok (t := t) (l := [a, b]) (SlS.of2 hR.2.1.blk (ha.mono hρ) (hb.mono hρ)) (by simp) (by rw [hlm]; omega) (by omega)
    rintro _ _ ⟨rfl, rfl⟩
    refine g_nil ?_
    refine g_qt ?_
    refine g_join (fun _ : Unit => [(0, .slice aa a.length ac), (1, .slice ba b.length bc), (5, .slice oa ((List.range t).map (FbyF a b)).length oc), (6, .slice (some ⟨b12, 0, none⟩) 2 2), (7, .int .i64 (lastI a b (t + 1))), (8, .int .i64 t), (9, .pointer (some ⟨b9, 0, none⟩))]) (fun _ => [Blk b9 (.cells (encC (FbyF a b t)).toArray 31 (0, 0)), Blk b12 (.cells [.slice aa a.length ac, .slice ba b.length bc].toArray 22 (0, 0)), OwnSl 31 2 oa ((List.range t).map (FbyF a b)).length oc (((List.range t).map (FbyF a b)).flatMap encC)]) (fun _ => True) ?_ ?_
    · refine g_if rfl (fun r => ?_) (fun r => ?_)
      · have hpre : FbyF a b t = if firstF a b t then cleanF (at0 a t) else lastB a b t := by unfold FbyF; rw [if_pos r]
        rw [hpre, lastI_go r]
        refine g_seq ?_
        refine g_seq ?_
        refine g_region ?_
        refine g_pure (p_move rfl) rfl ?_
        refine g_pure (p_lss rfl rfl) rfl ?_
        refine g_nil ?_
        refine g_qt ?_
        rcases lastI_spec a b t with ⟨hf, hi⟩ | ⟨hf, hi0, hi1, hi2⟩
        · rw [hf, hi]
          refine g_ift rfl ?_
          refine g_region ?_
          refine g_pure (p_move rfl) rfl ?_
          refine g_pure (p_move rfl) rfl ?_
          refine g_pure (p_indexAddr rfl rfl (by omega) (fun _ => l1)) rfl ?_
          refine g_pure (p_loadN (by rfl) rfl (Has.ro l2) x0') rfl ?_
          refine g_call (Hin := []) (Hr := ?hr7) (R := ?rr7) rfl rfl rfl ?hin7 ?hc7 ?hk7
          case hin7 => repeat' (first | exact Cover.nil | exact Take.here | apply Cover.cons | apply Take.there)
          case hc7 => intro ρ' hρ hR; exact plain_ok (at0 a t)
          rintro _ _ ⟨rfl, rfl⟩
          generalize cleanF (at0 a t) = u at *
          obtain ⟨u1, u2⟩ := u
          unfold aggC
          first | refine g_eff0 (e_storeO rfl rfl (by rfl) (by rfl) (by rfl) (by repeat' (first | exact Take.here | apply Take.there)) (by rfl)) (fun _ _ => ?_) | refine g_eff0 (e_storeN rfl rfl (by rfl) (by rfl) (by rfl) (by repeat' (first | exact Take.here | apply Take.there)) (by simp)) (fun _ _ => ?_)
          rintro rfl
          refine g_nil ?_
          refine g_qt ?_
          refine g_region ?_
          refine g_pure (p_move rfl) rfl ?_
          refine g_pure (p_assign rfl) rfl ?_
          refine g_nil ?_
          refine g_qn ?_
          exact g_joined () (by (repeat (first | exact trivial | refine ⟨by rfl, ?_⟩)); done) (by repeat' (first | exact Cover.nil | exact Take.here | apply Cover.cons | apply Take.there)) trivial
        · rw [hf, hi2]
          have hib : (lastI a b t).toNat < b.length := by omega
          obtain ⟨y0, -, -⟩ := cell_at m3 hib
          have y0' : sub km (om + (lastI a b t).toNat * 2) 2 = some (encC (at0 b (lastI a b t).toNat)) := by rw [at0_eq hib]; exact y0
          clear y0
          refine g_ifd rfl (fun s => ?_) (fun s => ?_)
          · exfalso; omega
          · refine g_region ?_
            refine g_pure (p_move rfl) rfl ?_
            refine g_pure (p_move rfl) rfl ?_
            refine g_pure (p_indexAddr rfl rfl (by omega) (fun _ => m1)) rfl ?_
            refine g_pure (p_loadN (by rfl) rfl (Has.ro m2) y0') rfl ?_
            refine g_call (Hin := []) (Hr := ?hr8) (R := ?rr8) rfl rfl rfl ?hin8 ?hc8 ?hk8
            case hin8 => repeat' (first | exact Cover.nil | exact Take.here | apply Cover.cons | apply Take.there)
            case hc8 => intro ρ' hρ hR; exact plain_ok (at0 b (lastI a b t).toNat)
            rintro _ _ ⟨rfl, rfl⟩
            generalize cleanF (at0 b (lastI a b t).toNat) = u at *
            obtain ⟨u1, u2⟩ := u
            unfold aggC
            first | refine g_eff0 (e_storeO rfl rfl (by rfl) (by rfl) (by rfl) (by repeat' (first | exact Take.here | apply Take.there)) (by rfl)) (fun _ _ => ?_) | refine g_eff0 (e_storeN rfl rfl (by rfl) (by rfl) (by rfl) (by repeat' (first | exact Take.here | apply Take.there)) (by simp)) (fun _ _ => ?_)
            rintro rfl
            refine g_nil ?_
            refine g_qt ?_
            refine g_region ?_
            refine g_pure (p_move rfl) rfl ?_
            refine g_pure (p_assign rfl) rfl ?_
            refine g_nil ?_
            refine g_qn ?_
            exact g_joined () (by (repeat (first | exact trivial | refine ⟨by rfl, ?_⟩)); done) (by repeat' (first | exact Cover.nil | exact Take.here | apply Cover.cons | apply Take.there)) trivial
      · have hpre : FbyF a b t = (0, 0) := by unfold FbyF; rw [if_neg (by rw [r]; simp)]
        rw [hpre, lastI_skip r]
        refine g_skip ?_
        refine g_qn ?_
        exact g_joined () (by (repeat (first | exact trivial | refine ⟨by rfl, ?_⟩)); done) (by repeat' (first | exact Cover.nil | exact Take.here | apply Cover.cons | apply Take.there)) trivial
    rintro - -
    generalize FbyF a b t = u at *
    obtain ⟨u1, u2⟩ := u
    show G _ _ _ [Blk b9 (.cells [.int .i64 u1, .int .i64 u2].toArray 31 (0, 0)), Blk b12 (.cells [.slice aa a.length ac, .slice ba b.length bc].toArray 22 (0, 0)), OwnSl 31 2 oa ((List.range t).map (FbyF a b)).length oc (((List.range t).map (FbyF a b)).flatMap encC)] _
    refine g_qt ?_
    refine g_region ?_
    refine g_pure (p_move rfl) rfl ?_
    first | refine g_pure (p_loadO (by rfl) rfl (by first | (apply Has.own; (repeat' (first | exact Take.here | apply Take.there)); done) | exact Has.ro (by assumption)) (by rfl)) rfl ?_ | refine g_pure (p_loadN (by rfl) rfl (by first | (apply Has.own; (repeat' (first | exact Take.here | apply Take.there)); done) | exact Has.ro (by assumption)) (by first | rfl | assumption)) rfl ?_
    refine g_eff (e_bs (xs := [.tmp 37]) rfl rfl rfl (by rfl) (by rfl) rfl (by rfl)) rfl (fun _ _ => ?_)
    rintro ⟨b38, rfl, rfl⟩
    refine g_eff (e_appendO (by rfl) (by rfl) rfl rfl (by first | (apply Has.own; (repeat' (first | exact Take.here | apply Take.there)); done) | exact Has.ro (by assumption)) (by rfl) (by rfl) (by repeat' (first | exact Take.here | apply Take.there)) (by omega) (by first | omega | (dsimp only; omega) | (simp <;> omega)) (by omega)) rfl (fun _ _ => ?_)
    rintro ⟨a39, c39, rfl, rfl⟩
    refine g_pure (p_assign rfl) rfl ?_
    refine g_nil ?_
    refine g_qb ?_
    refine g_qt ?_
    refine g_region ?_
    refine g_pure (p_move rfl) rfl ?_
    first | refine g_pure (p_addi rfl rfl (by omega)) rfl ?_ | refine g_pure (p_add rfl rfl) rfl ?_
    refine g_pure (p_assign rfl) rfl ?_
    refine g_nil ?_
    refine g_qn ?_
    rw [hm1]
    refine g_weak (A := OwnSl 31 2 a39 _ c39 (((List.range t).map (FbyF a b)).flatMap encC ++ encC (u1, u2))) (B := OwnSl 31 2 a39 ((List.range (t + 1)).map (FbyF a b)).length c39 (((List.range (t + 1)).map (FbyF a b)).flatMap encC)) (by repeat' (first | exact Take.here | apply Take.there)) (fun h hh => by rw [← hm2]; exact hh) ?_
    exact g_next (t + 1, a39, c39) (by (repeat (first | exact trivial | refine ⟨by rfl, ?_⟩)); done) (by repeat' (first | exact Cover.nil | exact Take.here | apply Cover.cons | apply Take.there)) (by dsimp only; omega) (by dsimp only; omega)
  · rw [hlm] at q
    obtain rfl : t = min a.length b.length := by omega
    refine g_exit ?_
    refine g_qt_exit ?_
    refine g_qn_exit ?_
    refine g_qb_exit ?_
    refine g_qt ?_
    refine g_seq ?_
    refine g_region ?_
    refine g_pure (p_move rfl) rfl ?_
    refine g_pure (p_assign rfl) rfl ?_
    refine g_nil ?_
    refine g_qt ?_
    refine g_ret ?_
    exact g_post (rs := [.tmp 4]) rfl (.tmp rfl .nil) ⟨oa, oc, rfl, rfl⟩ (by repeat' (first | exact Cover.nil | exact Take.here | apply Cover.cons | apply Take.there))
end Go.Proofs.Ytceecdjckhbncaa
